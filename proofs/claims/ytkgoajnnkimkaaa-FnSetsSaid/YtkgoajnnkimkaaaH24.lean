/- Laws of code that grows, beside rows of others; the instructions, read. -/
import Derived.Test.YtkgoajnnkimkaaaH21
set_option linter.unusedSimpArgs false
set_option linter.unusedVariables false
set_option maxRecDepth 100000
set_option maxHeartbeats 16000000
namespace Go.Proofs.Ytkgoajnnkimkaaa
open Go.ChangeShapes Go.WideShapes Go.ChangeAt Go.RowKit
section
variable {W W' : World} {ge base gr : Nat} {P : PA} {xs : List Is} {A : Option Addr} {c : Nat} {css : List (List Value)}
theorem Em.px {S X' : Nat → Prop} (h : Em W ge base gr P xs A c css) (hf : Fr S W W') (hS1 : ¬ S ge) (hS2 : ∀ b, (Value.slice A xs.length c).ownBlock = some b → ¬ S b) (hS : ∀ b, ¬ (b = gr ∨ P.X b) → base ≤ b → b < W.heap.size → ¬ S b)
  (h1 : ∀ b,b < W.heap.size → ¬ (b = gr ∨ P.X b) → ¬ X' b) (h2 : ∀ b,X' b → b < W'.heap.size) (h3 : ¬ X' gr ∧ ¬ X' ge) : Em W' ge base gr { P with X:=X' } xs A c css:=by
 have hl:=h.low;have hh:=h.high;have hs:=hf.size;have hg:=h.grl;refine ⟨(hf.block _ (by omega) hS1).trans h.box,hf.own h.own hS2,h.grb,by omega,hl,by omega,h.len,fun i q1 q2=>?_,h2,h3⟩;obtain ⟨Ak,ck,e,hk⟩:=h.row i q1 q2;exact ⟨Ak,ck,e,hk.sub hs (he_fr (P':={ P with X:=X' }) hf (fun b q1 q3 q2=>hS b q3 q1 q2) (fun b q1 q2 e=>e.elim (fun e=>q2 (.inl e)) (h1 b q1 q2)))⟩
theorem Em.insAt {B0 : Nat} (h : Em W ge base gr P xs A c css) (hb : B0 ≤ base) : InsAt (High W B0) W.heap.size A xs:=by
 have h7:=h.seven;have hr:=own_high h.own;refine ⟨fun i=>(((css[i]?).getD []).drop 2).take 4,fun i hi=>?_⟩;have hc : i < css.length:=by rw [h.len];exact hi
 obtain ⟨Ak,ck,e,hk⟩:=h.row i hc hi;have e2 : (((css[i]?).getD []).drop 2).take 4 = [.int .i64 xs[i].term.kind,.int .i64 xs[i].term.num,.string xs[i].term.name,.slice Ak xs[i].term.kids.length ck]:=by
  rw [List.getElem?_eq_getElem hc,e];rfl
 have hkH:=hk.sub (Nat.le_refl _) (fun p u hp=>high_mono hb p u (he_high p u hp));simp only [e2];refine ⟨fun j u hu=>?_,TmAt.make hkH⟩;have hu2 : css[i][j]? = some u:=by rw [e];exact hu
 have hj : j < 7:=by have:=(List.getElem?_eq_some_iff.1 hu).1;simpa using this
 have h3:=flat_get' css h7 i j hc hj;rw [hu2] at h3;obtain ⟨ad,ea,hlt,hcell⟩:=hr (i * 7 + j) u h3;exact ⟨ad,ea,hlt,high_mono hb _ _ hcell⟩
end
end Go.Proofs.Ytkgoajnnkimkaaa
