/- From a law's walk to its row: a law that returns true and changes nothing that was there. -/
import Derived.Test.YtkgoajnnkimkaaaA2
import Derived.Carry
import Derived.ChangeSame
import Derived.ChangeSlices
import Derived.Deep.Strs
import Derived.Lib.SmallJoins
set_option linter.unusedSimpArgs false
set_option linter.unusedVariables false
set_option maxRecDepth 100000
set_option maxHeartbeats 16000000
namespace Go.Proofs.Ytkgoajnnkimkaaa
open Go.ChangeShapes Go.WideShapes Go.ChangeAt Go.RowKit
theorem laidOut : laidOutB Try.prog = true:=by kernel_rfl
theorem own : ownKnob Try.prog.godebug = none:=by kernel_rfl
section
variable {H : Type} {enc : TypeId × Value → H} {P : Program}
theorem trodAll_stays (hl : laidOutB P = true) {W W' : World} (hb : Below W.heap.size W W') {sp' : Nat → Bool} : ∀ {ts : List TypeId} {vs : List Value} {ds : List (DataW H)} {ps : List MemPlace},
  (ts.all fun t=>P.readableRec t && decide (t < P.types.size)) = true →
  DataW.TrodAll enc P W 0 (fun _=>true) true ts vs ds ps → (∀ p ∈ ps,p.block < W.heap.size) → (∀ p ∈ ps,sp' p.block = true) → DataW.TrodAll enc P W' 0 sp' true ts vs ds ps
 | [], vs, ds, ps, _, h, _, _ => by
   obtain ⟨rfl,rfl,rfl⟩:=trodAll_nil h;exact trodAll_mk0
 | t :: ts, vs, ds, ps, ht, h, hlt, hs => by
   obtain ⟨v,vs',d,ds',p,q,rfl,rfl,rfl,h1,h2⟩:=trodAll_cons h;simp only [List.all_cons,Bool.and_eq_true,decide_eq_true_eq] at ht;refine trodAll_cons_mk (WideElems.Trod_stays hl ht.1.1 ht.1.2 h1 (fun x hx=>hb.same (hlt x (by simp [hx]))) (fun x hx=>hs x (by simp [hx]))) ?_;exact trodAll_stays hl hb ht.2 h2 (fun x hx=>hlt x (by simp [hx])) (fun x hx=>hs x (by simp [hx]))
theorem post_of_law {f : Func} {s : ChangeSpec} {apart fresh handsOn again : Bool} {W W' : World} {args : Array Value} {ds gs : List (DataW H)} {before : List MemPlace} {bt : TypeId}
  (hl : laidOutB P = true) (hv : s.vars = []) (hbt : P.underlying bt = some .bool) (hf : f.resultTypes = #[bt]) (hp : (f.params.toList.all fun t=>P.readableRec t && decide (t < P.types.size)) = true)
  (hfn : ∀ ds : List (DataW H),ds.length = f.params.toList.length → (s.fn H ds).results = [.lit (.bool true)] ∧ (s.fn H ds).args = ds ∧ (s.fn H ds).vars = [])
  (hW : DataW.Whole enc P f.params.toList s.vars apart W args.toList ds gs before) (hb : Below W.heap.size W W') :
  s.post enc P f apart fresh handsOn again W args (.bool true) W':=by
 have hlt : ∀ p ∈ before,p.block < W.heap.size:=fun p hp=>hW.lt p hp;have hold : ∀ p ∈ before,(fun b=>decide (b < W.heap.size)) p.block = true:=fun p hp=>by simpa using hlt p hp
 have hW0:=hW;obtain ⟨p,q,hA,hV,hps,hz,hn⟩:=hW;rw [hv] at hV;obtain ⟨rfl,rfl⟩:=trodVars_none hV;rw [List.append_nil] at hps;subst hps;have hlen : ds.length = f.params.toList.length:=by
  clear hz hn hlt hold hb hW0 hV hp hfn hf;generalize args.toList = vs at hA;generalize f.params.toList = ts at hA;induction ts generalizing vs ds before with
  | nil=>obtain ⟨rfl,rfl,rfl⟩:=trodAll_nil hA;rfl
  | cons t ts ih =>
   obtain ⟨v,vs',d,ds',p,q,rfl,rfl,rfl,h1,h2⟩:=trodAll_cons hA;simp [ih _ h2]
 obtain ⟨r1,r2,r3⟩:=hfn ds hlen;have hres : ∀ (b : Nat) (sp : Nat → Bool) (hd : Bool),DataW.TrodAll enc P W' b sp hd f.resultTypes.toList ((Value.bool true).resultList f.resultTypes.size) (s.fn H (ds ++ [])).results []:=by
  intro b sp hd;rw [List.append_nil,r1,hf];exact trodAll_cons_mk (shut_bool hbt _) trodAll_mk0
 have hargs : ∀ sp : Nat → Bool,(∀ p ∈ before,sp p.block = true) → DataW.TrodAll enc P W' 0 sp true f.params.toList args.toList (s.fn H (ds ++ [])).args before:=by
  intro sp hsp;rw [List.append_nil,r2];exact trodAll_stays hl hb hp hA hlt hsp
 have hvars : ∀ sp : Nat → Bool,DataW.TrodVars enc P W' sp s.vars (s.fn H (ds ++ [])).vars []:=by
  intro sp;rw [List.append_nil,r3,hv];exact rfl
 refine ⟨ds,[],before,[],before,[],hW0,hres _ _ _,hargs _ hold,hvars _,World.keptBut_mono (fun p hp=>⟨hp,Or.inr (by simpa using hp)⟩) (hb.frame (· ∈ before)),fun _=>?_⟩;refine ⟨?_,_,_,([] ++ before) ++ [],⟨[] ++ before,[],trodAll_append (hargs _ (fun _ _=>rfl)) (hres _ _ _),hvars _,rfl,?_,?_⟩,?_⟩
 ·
  intro j t r ht hr;rw [hf] at ht hr;rcases j with _ | j
  · simp at ht;subst ht;simp [Value.resultList] at hr;subst hr;exact okWide_bool_mk hbt _
  · simp at ht
 ·
  intro b off hp;have hin : MemPlace.cell b off ∈ before:=by simpa using hp
  rw [hb.frozen (hlt _ hin)];exact hz b off hin
 · intro ha;have:=hn ha;simpa using this
 · intro p hp _;simpa using hp
end
end Go.Proofs.Ytkgoajnnkimkaaa
namespace Go.Proofs.Ytkgoajnnkimkaaa
open Go.ChangeShapes Go.WideShapes Go.ChangeAt Go.RowKit
theorem fits_of_wf {n : Int} (h : (Lit.int .i64 n).wf = true) : Fits n:=by
 simp [Lit.wf,IntKind.min,IntKind.max,IntKind.bits,IntKind.signed] at h;unfold Fits;omega
theorem cells_int : Try.prog.cellsOf 3 = 1:=by kernel_rfl
section
variable {H : Type} {enc : TypeId × Value → H} {W : World} {sp : Nat → Bool} {held : Bool}
theorem rd_ints {fuel : Nat} {cs : List Value} {x : DataW H × List MemPlace} (h : DataW.trod enc Try.prog W 0 sp held fuel 35 cs = some x) :
  ∃ (A : Option Addr) (c : Nat) (zs : List Int),cs = [.slice A zs.length c] ∧ Rd W W.heap.size A (zs.map iv) ∧ zs.length ≤ 9223372036854775807 ∧ ∀ n ∈ zs,Fits n:=by
 rcases open_ints Try.underlying35 Try.underlying3 cells_int h with ⟨rfl,rfl⟩ | ⟨a,len,cap,zs,rfl,_,hlc,hcm,hzl,rfl,hcell,hwf⟩
 · exact ⟨none,0,[],rfl,Rd.nil,by simp,by simp⟩
 ·
  have hle : len ≤ zs.length:=by rw [hzl];split <;> omega
  unfold maxLen at hcm;refine ⟨some a,cap,zs.take len,by simp [Nat.min_eq_left hle],?_,by simp;omega,fun n hn=>fits_of_wf (hwf n (List.mem_of_mem_take hn))⟩;intro j u hu;simp only [List.getElem?_map,List.getElem?_take] at hu;by_cases hj : j < len
  · rw [if_pos hj,List.getElem?_eq_getElem (by omega)] at hu;simp at hu;subst hu;have hc:=hcell j (by omega);rw [List.getD_eq_getElem?_getD,List.getElem?_eq_getElem (by omega)] at hc;have hb:=World.block_lt_of_cell? W _ hc;rw [block_of_add] at hb;exact ⟨a,rfl,hb,hc⟩
  · rw [if_neg hj] at hu;simp at hu
theorem slice_cells {t e : TypeId} {v : Value} {r : Go.Reach} {b : Nat} (ht : Try.prog.underlying t = some (.slice e)) (hv : Value.okWide Try.prog W r b t v) : v.cells.toList = [v]:=by
 obtain ⟨a,l,c,rfl⟩:=okWide_slice ht hv;rfl
end
end Go.Proofs.Ytkgoajnnkimkaaa
namespace Go.Proofs.Ytkgoajnnkimkaaa
open Go.ChangeShapes Go.WideShapes Go.ChangeAt Go.RowKit
section
variable {H : Type} {enc : TypeId × Value → H} {W : World} {sp : Nat → Bool} {held : Bool}
theorem open_elems {t e : TypeId} {size : Nat} {fuel : Nat} {cs : List Value} {x : DataW H × List MemPlace} (ht : Try.prog.underlying t = some (.slice e)) (hC : Try.prog.cellsOf e = size) (h : DataW.trod enc Try.prog W 0 sp held fuel t cs = some x) :
  ∃ (A : Option Addr) (c n : Nat),cs = [.slice A n c] ∧ n ≤ c ∧ n ≤ 9223372036854775807 ∧ ∀ i,i < n → ∃ cs' f y,f < fuel ∧ Row W W.heap.size A (i * size) cs' ∧ DataW.trod enc Try.prog W 0 sp held f e cs' = some y:=by
 rcases DataW.trod_slice ht h with ⟨rfl,rfl⟩ | ⟨a,len,cap,elems,rest,n,rfl,rfl,rfl,_,hl,hm,hlen,hel,_⟩
 · exact ⟨none,0,0,rfl,by omega,by omega,fun i hi=>by omega⟩
 ·
  unfold maxLen at hm;refine ⟨some a,cap,len,rfl,hl,by omega,fun i hi=>?_⟩;have h1:=hel i hi;rw [List.getElem?_eq_getElem (by omega),hC] at h1;obtain ⟨cs',hc,ht'⟩:=Option.bind_eq_some_iff.1 h1;obtain ⟨_,hcl,hat⟩:=World.cells?_some hc;refine ⟨cs',n,_,by omega,?_,ht'⟩;intro j u hu;have hj : j < size:=by rw [← hcl];exact (List.getElem?_eq_some_iff.1 hu).1
  have hcell:=hat j hj;rw [hu,add_of_add] at hcell;have hb:=World.block_lt_of_cell? W _ hcell;rw [block_of_add] at hb;exact ⟨a,rfl,hb,hcell⟩
theorem list_of {α : Type} {p : Nat → α → Prop} {n : Nat} (h : ∀ i,i < n → ∃ x,p i x) : ∃ xs : List α,xs.length = n ∧ ∀ i (hi : i < xs.length),p i xs[i]:=by
 induction n with
 | zero=>exact ⟨[],rfl,fun i hi=>by simp at hi⟩
 | succ n ih =>
  obtain ⟨xs,hl,hx⟩:=ih fun i hi=>h i (by omega);obtain ⟨x,hp⟩:=h n (by omega);refine ⟨xs ++ [x],by simp [hl],fun i hi=>?_⟩;by_cases e : i < xs.length
  · rw [List.getElem_append_left e];exact hx i e
  ·
   have : i = n:=by simp at hi;omega
   subst this;rw [List.getElem_append_right (by omega)];simpa [hl] using hp
end
end Go.Proofs.Ytkgoajnnkimkaaa
