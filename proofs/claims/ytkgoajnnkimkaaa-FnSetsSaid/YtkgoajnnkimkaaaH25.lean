/- Contract of the reference's CodeOf for drawn programs: the code of them. -/
import Derived.Test.YtkgoajnnkimkaaaA8
import Derived.Test.YtkgoajnnkimkaaaH18
import Derived.Test.YtkgoajnnkimkaaaH22
import Derived.Test.YtkgoajnnkimkaaaH24
set_option linter.unusedSimpArgs false
set_option linter.unusedVariables false
set_option maxRecDepth 100000
set_option maxHeartbeats 16000000
namespace Go.Proofs.Ytkgoajnnkimkaaa
open Go.ChangeShapes Go.WideShapes Go.ChangeAt Go.RowKit
theorem l08Stmts_any {nm : List ByteArray} {bs : List (List St)} {P : PA} {w0 : World} (hp : ProgAt w0 P.gA P.lA P.pA nm bs) (hpn : P.pn = nm.length) (hg : PG nm bs) : ∀ (n : Nat) (ss : List St),St.cntL ss = n → EmSaid nm bs P w0 ss:=by
 intro n;induction n using Nat.strongRecOn with
 | ind n ih =>
  intro ss hn;exact l08Stmts_of hp hpn hg ss fun zs hz=>ih _ (by omega) zs rfl
theorem append_rd_op {P : Program} {o : Oper} {a : Act} {K : Act → World → Prop} {Q : Exit → Act → World → Prop} {t e : TypeId} {z : Value} {size bytes : Nat} (ht : P.underlying t = some (.slice e)) (hinfo : (P.info? e).map (fun i => (i.zero, i.size, i.bytes)) = some (some z, size, bytes))
  (hzs : z.cells.size = size) (hsz : 0 < size) (hby : bytes ≤ 128) {wr : World} (s x : Operand)
  (ho : o.op = .call { callee:=.builtin .append,args:=#[s,x],argTypes:=#[t,t] })
  {base : Nat} {v : Value} {n m cap : Nat} {xs : List Value} {ad : Addr} (us : List Value) (hown : wr.ownsRow base e size v n xs) (hs : a.eval s = v) (hx : a.eval x = .slice (some ad) m cap)
  (hcells : ∀ j u,us[j]? = some u → wr.cell? (ad.add j) = some u)
  (hus : us.length = m * size) (h1 : ∀ u ∈ us,u.oneCell' = true) (hn : n + m ≤ 1099511627775) (hbase : base ≤ wr.heap.size)
  (hK : ∀ A c w',w'.ownsRow base e size (.slice A (n + m) c) (n + m) (xs ++ us) → wr.grownBy w' v.ownBlock → ((Value.slice A (n + m) c).ownBlock = v.ownBlock ∨ (Value.slice A (n + m) c).ownBlock = some wr.heap.size) →
   K (a.put o.dst (.slice A (n + m) c)) w') : Oper.wp P o a wr K Q:=by
 obtain ⟨i0,hi,hz0,hz1,hz2⟩:=info_parts hinfo;obtain ⟨v',w',hr,h2,h3,_,h4⟩:=run_append_own_at (P:=P) wr base t o.type e i0 z size bytes ht hi hz0 hz1 hz2 hzs hsz v n xs hown ad m cap us
  hus hcells h1 (by unfold maxLen;omega) (Nat.le_trans (Nat.mul_le_mul_left _ hby) (by omega)) hbase
 obtain ⟨A,c,rfl⟩:=own_form h2;unfold Oper.wp execOp;simp only [ho,resolve,invoke,builtin,Sem.run_bind,Sem.run_pure,Result.andThen_ok,List.map_toArray,List.map_cons,List.map_nil,hs,hx,hr];exact hK _ _ _ h2 h3 h4
structure KHd (w : World) (gA lA pA : Option Addr) (gc lc pc n : Nat) (W : World) : Prop where
 low : Below w.heap.size w W
 box : W.heap[w.heap.size]? = some (.cells #[.slice gA 4 gc,.slice lA 3 lc,.slice pA n pc] 83)
 out : W.heap[w.heap.size + 1]? = some (.cells #[.slice none 0 0,.slice none 0 0,.slice none 0 0,.slice none 0 0,.slice none 0 0] 45)
section
variable {w W W' w3 : World} {gA lA pA : Option Addr} {gc lc pc n : Nat}
theorem KHd.two (h : KHd w gA lA pA gc lc pc n W) : w.heap.size + 2 ≤ W.heap.size:=by
 have:=(Array.getElem?_eq_some_iff.1 h.out).1;omega
theorem KHd.fr {S : Nat → Prop} (h : KHd w gA lA pA gc lc pc n W) (hf : Fr S W W') (hS : ∀ b,S b → w.heap.size + 2 ≤ b) : KHd w gA lA pA gc lc pc n W':=by
 have h2:=h.two;refine ⟨h.low.trans (hf.below (by omega) fun b hb e=>by have:=hS b e;omega),(hf.block _ (by omega) fun e=>by have:=hS _ e;omega).trans h.box,(hf.block _ (by omega) fun e=>by have:=hS _ e;omega).trans h.out⟩
theorem KHd.to (h : KHd w gA lA pA gc lc pc n W) (hb : Below W.heap.size W W') : KHd w gA lA pA gc lc pc n W':=h.fr (S:=fun _=>False) (Fr.of_below hb) fun _ h=>h.elim
theorem KHd.p (h : KHd w gA lA pA gc lc pc n W) : W.cell? ⟨w.heap.size,0,none⟩ = some (.slice gA 4 gc) ∧ W.cell? ⟨w.heap.size,1,none⟩ = some (.slice lA 3 lc) ∧ W.cell? ⟨w.heap.size,2,none⟩ = some (.slice pA n pc):=by
 obtain ⟨p,_⟩:=row_facts h.box;exact ⟨p 0 _ rfl,p 1 _ rfl,p 2 _ rfl⟩
theorem kHd_start (w : World) (gA lA pA : Option Addr) (gc lc pc n : Nat) : KHd w gA lA pA gc lc pc n ((w.alloc (.cells #[.slice gA 4 gc,.slice lA 3 lc,.slice pA n pc] 83)).alloc (.cells #[.slice none 0 0,.slice none 0 0,.slice none 0 0,.slice none 0 0,.slice none 0 0] 45)):=by
 have hs : (w.alloc (.cells #[.slice gA 4 gc,.slice lA 3 lc,.slice pA n pc] 83)).heap.size = w.heap.size + 1:=by simp
 have h1:=heap_alloc_new w (.cells #[.slice gA 4 gc,.slice lA 3 lc,.slice pA n pc] 83);have h2:=heap_alloc_new (w.alloc (.cells #[.slice gA 4 gc,.slice lA 3 lc,.slice pA n pc] 83)) (.cells #[.slice none 0 0,.slice none 0 0,.slice none 0 0,.slice none 0 0,.slice none 0 0] 45);rw [hs] at h2;exact ⟨below_trans' (below_alloc0 _ _) (below_alloc0 _ _),((below_alloc0 (w.alloc (.cells #[.slice gA 4 gc,.slice lA 3 lc,.slice pA n pc] 83)) (.cells #[.slice none 0 0,.slice none 0 0,.slice none 0 0,.slice none 0 0,.slice none 0 0] 45)).block _ (by omega)).trans h1,h2⟩
end
structure KR (w : World) (gA lA pA : Option Addr) (gc lc pc n : Nat) (ra rb : Option (Value × List Value)) (ea eb : Nat) (kb : Option Nat) (W : World) : Prop where
 held : KHd w gA lA pA gc lc pc n W
 a : ∀ v xs,ra = some (v,xs) → W.ownsRow (w.heap.size + 2) 9 1 v ea xs
 b : ∀ v xs,rb = some (v,xs) → W.ownsRow (w.heap.size + 2) 9 1 v eb xs
 k : ∀ g,kb = some g → W.heap[g]? = some (.cells #[.slice none 0 0,.slice none 0 0,.slice none 0 0,.slice none 0 0,.slice none 0 0] 45) ∧ w.heap.size + 2 ≤ g
 ne : ∀ v xs v' xs' b,ra = some (v,xs) → rb = some (v',xs') → v.ownBlock = some b → v'.ownBlock ≠ some b
 ka : ∀ g v xs,kb = some g → ra = some (v,xs) → v.ownBlock ≠ some g
 kb' : ∀ g v xs,kb = some g → rb = some (v,xs) → v.ownBlock ≠ some g
section
variable {w W W' w3 : World} {gA lA pA : Option Addr} {gc lc pc n : Nat} {ra rb : Option (Value × List Value)} {ea eb : Nat} {kb : Option Nat}
theorem KR.start (h : KHd w gA lA pA gc lc pc n W) : KR w gA lA pA gc lc pc n none none 0 0 none W :=
 ⟨h,fun _ _ e=>by simp at e,fun _ _ e=>by simp at e,fun _ e=>by simp at e,fun _ _ _ _ _ e=>by simp at e,fun _ _ _ e=>by simp at e,fun _ _ _ e=>by simp at e⟩
theorem KR.lita (h : KR w gA lA pA gc lc pc n none rb 0 eb kb W) : KR w gA lA pA gc lc pc n (some (.slice (some ⟨W.heap.size,0,none⟩) 0 0,[])) rb 0 eb kb (W.alloc (.cells #[] 9)):=by
 have hb:=below_alloc0 W (.cells #[] 9);have h2:=h.held.two;refine ⟨h.held.to hb,fun v xs e=>?_,fun v xs e=>own_below (h.b v xs e) hb,fun g e=>?_,fun v xs v' xs' b e e' q=>?_,fun g v xs e e' q=>?_,h.kb'⟩
 · injection e with e;injection e with e1 e2;subst e1 e2;exact World.ownsRow_lit W #[] 0 h2 (by simp) rfl
 · have:=h.k g e;exact ⟨(hb.block g (Array.getElem?_eq_some_iff.1 this.1).1).trans this.1,this.2⟩
 · injection e with e;injection e with e1 e2;subst e1;injection q with q;simp only at q;intro q2;have:=((h.b v' xs' e').lt b q2).2;omega
 · injection e' with e';injection e' with e1 e2;subst e1;injection q with q;simp only at q;have:=(Array.getElem?_eq_some_iff.1 (h.k g e).1).1;omega
theorem KR.litb (h : KR w gA lA pA gc lc pc n ra none ea 0 kb W) : KR w gA lA pA gc lc pc n ra (some (.slice (some ⟨W.heap.size,0,none⟩) 0 0,[])) ea 0 kb (W.alloc (.cells #[] 9)):=by
 have hb:=below_alloc0 W (.cells #[] 9);have h2:=h.held.two;refine ⟨h.held.to hb,fun v xs e=>own_below (h.a v xs e) hb,fun v xs e=>?_,fun g e=>?_,fun v xs v' xs' b e e' q q2=>?_,h.ka,fun g v xs e e' q=>?_⟩
 · injection e with e;injection e with e1 e2;subst e1 e2;exact World.ownsRow_lit W #[] 0 h2 (by simp) rfl
 · have:=h.k g e;exact ⟨(hb.block g (Array.getElem?_eq_some_iff.1 this.1).1).trans this.1,this.2⟩
 · injection e' with e';injection e' with e1 e2;subst e1;injection q2 with q2;simp only at q2;have:=((h.a v xs e).lt b q).2;omega
 · injection e' with e';injection e' with e1 e2;subst e1;injection q with q;simp only at q;have:=(Array.getElem?_eq_some_iff.1 (h.k g e).1).1;omega
theorem KR.box (h : KR w gA lA pA gc lc pc n ra rb ea eb none W) : KR w gA lA pA gc lc pc n ra rb ea eb (some W.heap.size) (W.alloc (.cells #[.slice none 0 0,.slice none 0 0,.slice none 0 0,.slice none 0 0,.slice none 0 0] 45)):=by
 have hb:=below_alloc0 W (.cells #[.slice none 0 0,.slice none 0 0,.slice none 0 0,.slice none 0 0,.slice none 0 0] 45);have h2:=h.held.two;refine ⟨h.held.to hb,fun v xs e=>own_below (h.a v xs e) hb,fun v xs e=>own_below (h.b v xs e) hb,fun g e=>?_,h.ne,fun g v xs e e' q=>?_,fun g v xs e e' q=>?_⟩
 · injection e with e;subst e;exact ⟨heap_alloc_new W _,h2⟩
 · injection e with e;subst e;have:=((h.a v xs e').lt _ q).2;omega
 · injection e with e;subst e;have:=((h.b v xs e').lt _ q).2;omega
theorem KR.appa {v : Value} {xs us : List Value} {A : Option Addr} {c m : Nat} (h : KR w gA lA pA gc lc pc n (some (v, xs)) rb ea eb kb W) (ho : w3.ownsRow (w.heap.size + 2) 9 1 (.slice A m c) m us) (hg : W.grownBy w3 v.ownBlock)
  (hv : (Value.slice A m c).ownBlock = v.ownBlock ∨ (Value.slice A m c).ownBlock = some W.heap.size) : KR w gA lA pA gc lc pc n (some (.slice A m c,us)) rb m eb kb w3:=by
 have hF : Fr (fun b=>v.ownBlock = some b) W w3:=(Fr.refl _ W).grown hg (fun b e _=>e);have hvb : ∀ b,v.ownBlock = some b → w.heap.size + 2 ≤ b:=fun b e=>((h.a v xs rfl).lt b e).1;refine ⟨h.held.fr hF hvb,fun v1 xs1 e=>?_,fun v1 xs1 e=>hF.own (h.b v1 xs1 e) (fun b e2 e3=>h.ne v xs v1 xs1 b rfl e e3 e2),fun g e=>?_,fun v1 xs1 v' xs' b e e' q q2=>?_,fun g v1 xs1 e e' q=>?_,h.kb'⟩
 · injection e with e;injection e with e1 e2;subst e1 e2;exact ho
 · have h4:=h.k g e;exact ⟨(hF.block g (Array.getElem?_eq_some_iff.1 h4.1).1 (h.ka g v xs e rfl)).trans h4.1,h4.2⟩
 ·
  injection e with e;injection e with e1 e2;subst e1;rcases hv with hv | hv
  · rw [hv] at q;exact h.ne v xs v' xs' b rfl e' q q2
  · rw [hv] at q;injection q with q;have:=((h.b v' xs' e').lt b q2).2;omega
 ·
  injection e' with e';injection e' with e1 e2;subst e1;rcases hv with hv | hv
  · rw [hv] at q;exact h.ka g v xs e rfl q
  · rw [hv] at q;injection q with q;have:=(Array.getElem?_eq_some_iff.1 (h.k g e).1).1;omega
theorem KR.appb {v : Value} {xs us : List Value} {A : Option Addr} {c m : Nat} (h : KR w gA lA pA gc lc pc n ra (some (v, xs)) ea eb kb W) (ho : w3.ownsRow (w.heap.size + 2) 9 1 (.slice A m c) m us) (hg : W.grownBy w3 v.ownBlock)
  (hv : (Value.slice A m c).ownBlock = v.ownBlock ∨ (Value.slice A m c).ownBlock = some W.heap.size) : KR w gA lA pA gc lc pc n ra (some (.slice A m c,us)) ea m kb w3:=by
 have hF : Fr (fun b=>v.ownBlock = some b) W w3:=(Fr.refl _ W).grown hg (fun b e _=>e);have hvb : ∀ b,v.ownBlock = some b → w.heap.size + 2 ≤ b:=fun b e=>((h.b v xs rfl).lt b e).1;refine ⟨h.held.fr hF hvb,fun v1 xs1 e=>hF.own (h.a v1 xs1 e) (fun b e2 e3=>h.ne v1 xs1 v xs b e rfl e2 e3),fun v1 xs1 e=>?_,fun g e=>?_,fun v1 xs1 v' xs' b e e' q q2=>?_,h.ka,fun g v1 xs1 e e' q=>?_⟩
 · injection e with e;injection e with e1 e2;subst e1 e2;exact ho
 · have h4:=h.k g e;exact ⟨(hF.block g (Array.getElem?_eq_some_iff.1 h4.1).1 (h.kb' g v xs e rfl)).trans h4.1,h4.2⟩
 ·
  injection e' with e';injection e' with e1 e2;subst e1;rcases hv with hv | hv
  · rw [hv] at q2;exact h.ne v1 xs1 v xs b e rfl q q2
  · rw [hv] at q2;injection q2 with q2;have:=((h.a v1 xs1 e).lt b q).2;omega
 ·
  injection e' with e';injection e' with e1 e2;subst e1;rcases hv with hv | hv
  · rw [hv] at q;exact h.kb' g v xs e rfl q
  · rw [hv] at q;injection q with q;have:=(Array.getElem?_eq_some_iff.1 (h.k g e).1).1;omega
end
structure KN (w : World) (gA lA pA : Option Addr) (gc lc pc n : Nat) (kb : Nat) (gA' : Option Addr) (gc' : Nat) (lA' : Option Addr) (lc' : Nat) (W : World) : Prop where
 held : KHd w gA lA pA gc lc pc n W
 k : W.heap[kb]? = some (.cells #[.slice gA' 4 gc',.slice lA' 3 lc',.slice none 0 0,.slice none 0 0,.slice none 0 0] 45)
 lo : w.heap.size + 2 ≤ kb
 g : W.ownsRow (w.heap.size + 2) 9 1 (.slice gA' 4 gc') 4 (globL.map sv)
 l : W.ownsRow (w.heap.size + 2) 9 1 (.slice lA' 3 lc') 3 (lockL.map sv)
 gk : (Value.slice gA' 4 gc').ownBlock ≠ some kb
 lk : (Value.slice lA' 3 lc').ownBlock ≠ some kb
theorem KR.done {w W : World} {gA lA pA : Option Addr} {gc lc pc n : Nat} {kb : Nat} {gA' : Option Addr} {gc' : Nat} {lA' : Option Addr} {lc' : Nat}
  (h : KR w gA lA pA gc lc pc n (some (.slice gA' 4 gc',globL.map sv)) (some (.slice lA' 3 lc',lockL.map sv)) 4 3 (some kb) W) :
  KN w gA lA pA gc lc pc n kb gA' gc' lA' lc' (((((W.setCell ⟨kb,0,none⟩ (.slice gA' 4 gc')).setCell ⟨kb,1,none⟩ (.slice lA' 3 lc')).setCell ⟨kb,2,none⟩ (.slice none 0 0)).setCell ⟨kb,3,none⟩ (.slice none 0 0)).setCell ⟨kb,4,none⟩ (.slice none 0 0)):=by
 obtain ⟨hk,hlo⟩:=h.k kb rfl;have hF : Fr (fun b=>b = kb) W (((((W.setCell ⟨kb,0,none⟩ (.slice gA' 4 gc')).setCell ⟨kb,1,none⟩ (.slice lA' 3 lc')).setCell ⟨kb,2,none⟩ (.slice none 0 0)).setCell ⟨kb,3,none⟩ (.slice none 0 0)).setCell ⟨kb,4,none⟩ (.slice none 0 0)) :=
  ((((Fr.set (S:=fun b=>b = kb) (Fr.refl _ W) (a:=⟨kb,0,none⟩) (fun _=>rfl) _).set (a:=⟨kb,1,none⟩) (fun _=>rfl) _).set (a:=⟨kb,2,none⟩) (fun _=>rfl) _).set (a:=⟨kb,3,none⟩) (fun _=>rfl) _).set (a:=⟨kb,4,none⟩) (fun _=>rfl) _
 exact ⟨h.held.fr hF (fun b e=>by omega),set_row (set_row (set_row (set_row (set_row hk 0 _) 1 _) 2 _) 3 _) 4 _,hlo,hF.own (h.a _ _ rfl) (fun b e e2=>h.ka kb _ _ rfl rfl (by rw [e,e2])),hF.own (h.b _ _ rfl) (fun b e e2=>h.kb' kb _ _ rfl rfl (by rw [e,e2])),h.ka kb _ _ rfl rfl,h.kb' kb _ _ rfl rfl⟩
theorem KR.done2 {w W : World} {gA lA pA : Option Addr} {gc lc pc n : Nat} {gA' : Option Addr} {gc' : Nat} {lA' : Option Addr} {lc' : Nat}
  (h : KR w gA lA pA gc lc pc n (some (.slice gA' 4 gc',globL.map sv)) (some (.slice lA' 3 lc',lockL.map sv)) 4 3 none W) :
  KN w gA lA pA gc lc pc n W.heap.size gA' gc' lA' lc' (W.alloc (.cells #[.slice gA' 4 gc',.slice lA' 3 lc',.slice none 0 0,.slice none 0 0,.slice none 0 0] 45)):=by
 have hb:=below_alloc0 W (.cells #[.slice gA' 4 gc',.slice lA' 3 lc',.slice none 0 0,.slice none 0 0,.slice none 0 0] 45);exact ⟨h.held.to hb,heap_alloc_new W _,h.held.two,own_below (h.a _ _ rfl) hb,own_below (h.b _ _ rfl) hb,fun e=>by have:=((h.a _ _ rfl).lt _ e).2;omega,fun e=>by have:=((h.b _ _ rfl).lt _ e).2;omega⟩
def XO (Ap : Option Addr) (jp cp : Nat) (Ae : Option Addr) (je ce : Nat) (b : Nat) : Prop:=(Value.slice Ap jp cp).ownBlock = some b ∨ (Value.slice Ae je ce).ownBlock = some b
structure CO (w : World) (gA lA pA : Option Addr) (gc lc pc : Nat) (nm : List ByteArray) (bs : List (List St)) (kb ge : Nat) (gA' : Option Addr) (gc' : Nat) (lA' : Option Addr) (lc' : Nat) (jp je : Nat) (xs : List Is) (Ap : Option Addr) (cp : Nat) (Ae : Option Addr) (ce : Nat) (gr : Nat) (A : Option Addr) (c : Nat) (css : List (List Value)) (W : World) : Prop where
 held : KHd w gA lA pA gc lc pc nm.length W
 k : W.heap[kb]? = some (.cells #[.slice gA' 4 gc',.slice lA' 3 lc',.slice Ap jp cp,.slice Ae je ce,.slice none 0 0] 45)
 lo : w.heap.size + 2 ≤ kb ∧ kb < ge
 g : W.ownsRow (w.heap.size + 2) 9 1 (.slice gA' 4 gc') 4 (globL.map sv)
 l : W.ownsRow (w.heap.size + 2) 9 1 (.slice lA' 3 lc') 3 (lockL.map sv)
 gk : ∀ b,(Value.slice gA' 4 gc').ownBlock = some b → b ≠ kb ∧ b < ge
 lk : ∀ b,(Value.slice lA' 3 lc').ownBlock = some b → b ≠ kb ∧ b < ge
 po : W.ownsRow (ge + 1) 9 1 (.slice Ap jp cp) jp ((nm.take jp).map sv)
 eo : W.ownsRow (ge + 1) 3 1 (.slice Ae je ce) je (((entD nm bs).take je).map fun (n : Nat)=>iv (n : Int))
 ne : ∀ b,(Value.slice Ap jp cp).ownBlock = some b → (Value.slice Ae je ce).ownBlock ≠ some b
 em : Em W ge (ge + 1) gr ⟨gA,gc,lA,lc,pA,nm.length,pc,XO Ap jp cp Ae je ce⟩ xs A c css
section
variable {w W W' w3 : World} {gA lA pA : Option Addr} {gc lc pc : Nat} {nm : List ByteArray} {bs : List (List St)} {kb ge : Nat} {gA' : Option Addr} {gc' : Nat} {lA' : Option Addr} {lc' : Nat} {jp je : Nat} {xs ys : List Is} {Ap : Option Addr} {cp : Nat} {Ae : Option Addr} {ce : Nat} {gr : Nat} {A : Option Addr} {c : Nat} {css : List (List Value)}
theorem KN.co (h : KN w gA lA pA gc lc pc nm.length kb gA' gc' lA' lc' W) : CO w gA lA pA gc lc pc nm bs kb W.heap.size gA' gc' lA' lc' 0 0 [] none 0 none 0 W.heap.size none 0 [] (W.alloc (.cells #[.slice gA 4 gc,.slice lA 3 lc,.slice pA nm.length pc,.slice none 0 0] 97)):=by
 have hb:=below_alloc0 W (.cells #[.slice gA 4 gc,.slice lA 3 lc,.slice pA nm.length pc,.slice none 0 0] 97);have hk:=(Array.getElem?_eq_some_iff.1 h.k).1;refine ⟨h.held.to hb,(hb.block _ hk).trans h.k,⟨h.lo,hk⟩,own_below h.g hb,own_below h.l hb,fun b e=>⟨fun q=>h.gk (by rw [e,q]),(h.g.lt b e).2⟩,fun b e=>⟨fun q=>h.lk (by rw [e,q]),(h.l.lt b e).2⟩,World.ownsRow_nil _ _ _ _,World.ownsRow_nil _ _ _ _,fun b e=>by simp [Value.ownBlock] at e,?_⟩;refine ⟨heap_alloc_new W _,World.ownsRow_nil _ _ _ _,fun b e=>by simp [Value.ownBlock] at e,.inl rfl,by omega,by simp,rfl,fun i h1 h2=>by simp at h1,fun b e=>?_,?_⟩
 · rcases e with e | e <;> simp [Value.ownBlock] at e
 · constructor <;> (intro e;rcases e with e | e <;> simp [Value.ownBlock] at e)
theorem CO.to (h : CO w gA lA pA gc lc pc nm bs kb ge gA' gc' lA' lc' jp je xs Ap cp Ae ce gr A c css W) (hb : Below W.heap.size W W') : CO w gA lA pA gc lc pc nm bs kb ge gA' gc' lA' lc' jp je xs Ap cp Ae ce gr A c css W' :=
 ⟨h.held.to hb,(hb.block _ (Array.getElem?_eq_some_iff.1 h.k).1).trans h.k,h.lo,own_below h.g hb,own_below h.l hb,h.gk,h.lk,own_below h.po hb,own_below h.eo hb,h.ne,h.em.to hb⟩
theorem CO.facts (h : CO w gA lA pA gc lc pc nm bs kb ge gA' gc' lA' lc' jp je xs Ap cp Ae ce gr A c css W) : W.cell? ⟨kb,2,none⟩ = some (.slice Ap jp cp) ∧ W.cell? ⟨kb,3,none⟩ = some (.slice Ae je ce) ∧ W.cell? ⟨ge,3,none⟩ = some (.slice A xs.length c) ∧ ∀ j,W.frozen? ⟨kb,j,none⟩ = false:=by
 obtain ⟨p,q⟩:=row_facts h.k;exact ⟨p 2 _ rfl,p 3 _ rfl,h.em.facts.1 3 _ rfl,q⟩
theorem CO.proc {Ap' : Option Addr} {cp' : Nat} (h : CO w gA lA pA gc lc pc nm bs kb ge gA' gc' lA' lc' jp je xs Ap cp Ae ce gr A c css W) (hj : jp < nm.length)
  (ho : w3.ownsRow (ge + 1) 9 1 (.slice Ap' (jp + 1) cp') (jp + 1) ((nm.take jp).map sv ++ [.string nm[jp]])) (hg : W.grownBy w3 (Value.slice Ap jp cp).ownBlock)
  (hv : (Value.slice Ap' (jp + 1) cp').ownBlock = (Value.slice Ap jp cp).ownBlock ∨ (Value.slice Ap' (jp + 1) cp').ownBlock = some (W.heap.size + 1)) :
  CO w gA lA pA gc lc pc nm bs kb ge gA' gc' lA' lc' (jp + 1) je xs Ap' cp' Ae ce gr A c css (w3.setCell ⟨kb,2,none⟩ (.slice Ap' (jp + 1) cp')):=by
 have hlo:=h.lo;have hsz:=hg.size;have hkl:=(Array.getElem?_eq_some_iff.1 h.k).1;have hob : ∀ b,(Value.slice Ap jp cp).ownBlock = some b → ge + 1 ≤ b ∧ b < W.heap.size:=fun b e=>h.po.lt b e;have hoe : ∀ b,(Value.slice Ae je ce).ownBlock = some b → ge + 1 ≤ b ∧ b < W.heap.size:=fun b e=>h.eo.lt b e;have hon : ∀ b,(Value.slice Ap' (jp + 1) cp').ownBlock = some b → ge + 1 ≤ b ∧ b < w3.heap.size:=fun b e=>ho.lt b e;have hoa : ∀ b,(Value.slice A xs.length c).ownBlock = some b → ge + 1 ≤ b ∧ b < W.heap.size:=fun b e=>h.em.own.lt b e;have hF1 : Fr (fun b=>(Value.slice Ap jp cp).ownBlock = some b) W w3:=(Fr.refl _ W).grown hg (fun b e _=>e);have hF : Fr (fun b=>(Value.slice Ap jp cp).ownBlock = some b ∨ b = kb) W (w3.setCell ⟨kb,2,none⟩ (.slice Ap' (jp + 1) cp')):=(hF1.mono (fun b _ e=>.inl e)).set (a:=⟨kb,2,none⟩) (fun _=>.inr rfl) _;have hf3 : Fr (fun b=>b = kb) w3 (w3.setCell ⟨kb,2,none⟩ (.slice Ap' (jp + 1) cp')):=Fr.set (S:=fun b=>b = kb) (Fr.refl _ w3) (a:=⟨kb,2,none⟩) (fun _=>rfl) _;have hs3 : (w3.setCell ⟨kb,2,none⟩ (.slice Ap' (jp + 1) cp')).heap.size = w3.heap.size:=World.size_setCell ..;have hge:=h.em.high;refine ⟨h.held.fr hF (fun b e=>e.elim (fun e=>by have:=hob b e;omega) (fun e=>by omega)),?_,hlo,hF.own h.g (fun b e q=>?_),hF.own h.l (fun b e q=>?_),h.gk,h.lk,?_,hF.own h.eo (fun b e q=>?_),fun b e q=>?_,?_⟩
 · have:=set_row ((hF1.block kb hkl (fun e=>by have:=hob _ e;omega)).trans h.k) 2 (.slice Ap' (jp + 1) cp');simpa using this
 · have:=h.gk b e;exact q.elim (fun q=>by have:=hob b q;omega) (fun q=>this.1 q)
 · have:=h.lk b e;exact q.elim (fun q=>by have:=hob b q;omega) (fun q=>this.1 q)
 · rw [List.take_succ_eq_append_getElem hj,List.map_append];exact hf3.own ho (fun b e q=>by have:=hon b e;omega)
 · exact q.elim (fun q=>h.ne b q e) (fun q=>by have:=hoe b e;omega)
 ·
  rcases hv with hv | hv
  · rw [hv] at e;exact h.ne b e q
  · rw [hv] at e;injection e with e;have:=hoe b q;omega
 ·
  refine h.em.px (X':=XO Ap' (jp + 1) cp' Ae je ce) hF (fun e=>e.elim (fun e=>by have:=hob _ e;omega) (fun e=>by omega)) (fun b e q=>?_) (fun b q1 q2 q3 q=>?_) (fun b q1 q2 q=>?_) (fun b q=>?_) ⟨fun q=>?_,fun q=>?_⟩
  ·
   have e1:=h.em.grb b e;have e2:=hoa b e;rcases q with q | q
   · exact h.em.xgr.1 (by rw [← e1];exact .inl q)
   · omega
  ·
   rcases q with q | q
   · exact q1 (.inr (.inl q))
   · omega
  ·
   rcases q with q | q
   ·
    rcases hv with hv | hv
    · rw [hv] at q;exact q2 (.inr (.inl q))
    · rw [hv] at q;injection q with q;omega
   · exact q2 (.inr (.inr q))
  ·
   rw [hs3];rcases q with q | q
   · exact (hon b q).2
   · have:=hoe b q;omega
  ·
   rcases q with q | q
   ·
    rcases hv with hv | hv
    · rw [hv] at q;exact h.em.xgr.1 (.inl q)
    · rw [hv] at q;injection q with q;rcases h.em.grl with h1 | h1 <;> omega
   · exact h.em.xgr.1 (.inr q)
  ·
   rcases q with q | q
   · have:=hon _ q;omega
   · have:=hoe _ q;omega
theorem CO.entry {Ae' : Option Addr} {ce' : Nat} (h : CO w gA lA pA gc lc pc nm bs kb ge gA' gc' lA' lc' jp je xs Ap cp Ae ce gr A c css W) (hj : je < (entD nm bs).length)
  (ho : w3.ownsRow (ge + 1) 3 1 (.slice Ae' (je + 1) ce') (je + 1) ((((entD nm bs).take je).map fun (n : Nat)=>iv (n : Int)) ++ [.int .i64 (((entD nm bs)[je] : Nat) : Int)])) (hg : W.grownBy w3 (Value.slice Ae je ce).ownBlock)
  (hv : (Value.slice Ae' (je + 1) ce').ownBlock = (Value.slice Ae je ce).ownBlock ∨ (Value.slice Ae' (je + 1) ce').ownBlock = some (W.heap.size + 1)) :
  CO w gA lA pA gc lc pc nm bs kb ge gA' gc' lA' lc' jp (je + 1) xs Ap cp Ae' ce' gr A c css (w3.setCell ⟨kb,3,none⟩ (.slice Ae' (je + 1) ce')):=by
 have hlo:=h.lo;have hsz:=hg.size;have hkl:=(Array.getElem?_eq_some_iff.1 h.k).1;have hob : ∀ b,(Value.slice Ap jp cp).ownBlock = some b → ge + 1 ≤ b ∧ b < W.heap.size:=fun b e=>h.po.lt b e;have hoe : ∀ b,(Value.slice Ae je ce).ownBlock = some b → ge + 1 ≤ b ∧ b < W.heap.size:=fun b e=>h.eo.lt b e;have hon : ∀ b,(Value.slice Ae' (je + 1) ce').ownBlock = some b → ge + 1 ≤ b ∧ b < w3.heap.size:=fun b e=>ho.lt b e;have hoa : ∀ b,(Value.slice A xs.length c).ownBlock = some b → ge + 1 ≤ b ∧ b < W.heap.size:=fun b e=>h.em.own.lt b e;have hF1 : Fr (fun b=>(Value.slice Ae je ce).ownBlock = some b) W w3:=(Fr.refl _ W).grown hg (fun b e _=>e);have hF : Fr (fun b=>(Value.slice Ae je ce).ownBlock = some b ∨ b = kb) W (w3.setCell ⟨kb,3,none⟩ (.slice Ae' (je + 1) ce')):=(hF1.mono (fun b _ e=>.inl e)).set (a:=⟨kb,3,none⟩) (fun _=>.inr rfl) _;have hf3 : Fr (fun b=>b = kb) w3 (w3.setCell ⟨kb,3,none⟩ (.slice Ae' (je + 1) ce')):=Fr.set (S:=fun b=>b = kb) (Fr.refl _ w3) (a:=⟨kb,3,none⟩) (fun _=>rfl) _;have hs3 : (w3.setCell ⟨kb,3,none⟩ (.slice Ae' (je + 1) ce')).heap.size = w3.heap.size:=World.size_setCell ..;have hge:=h.em.high;refine ⟨h.held.fr hF (fun b e=>e.elim (fun e=>by have:=hoe b e;omega) (fun e=>by omega)),?_,hlo,hF.own h.g (fun b e q=>?_),hF.own h.l (fun b e q=>?_),h.gk,h.lk,hF.own h.po (fun b e q=>?_),?_,fun b e q=>?_,?_⟩
 · have:=set_row ((hF1.block kb hkl (fun e=>by have:=hoe _ e;omega)).trans h.k) 3 (.slice Ae' (je + 1) ce');simpa using this
 · have:=h.gk b e;exact q.elim (fun q=>by have:=hoe b q;omega) (fun q=>this.1 q)
 · have:=h.lk b e;exact q.elim (fun q=>by have:=hoe b q;omega) (fun q=>this.1 q)
 · exact q.elim (fun q=>h.ne b e q) (fun q=>by have:=hob b e;omega)
 · rw [List.take_succ_eq_append_getElem hj,List.map_append];exact hf3.own ho (fun b e q=>by have:=hon b e;omega)
 ·
  rcases hv with hv | hv
  · rw [hv] at q;exact h.ne b e q
  · rw [hv] at q;injection q with q;have:=hob b e;omega
 ·
  refine h.em.px (X':=XO Ap jp cp Ae' (je + 1) ce') hF (fun e=>e.elim (fun e=>by have:=hoe _ e;omega) (fun e=>by omega)) (fun b e q=>?_) (fun b q1 q2 q3 q=>?_) (fun b q1 q2 q=>?_) (fun b q=>?_) ⟨fun q=>?_,fun q=>?_⟩
  ·
   have e1:=h.em.grb b e;have e2:=hoa b e;rcases q with q | q
   · exact h.em.xgr.1 (by rw [← e1];exact .inr q)
   · omega
  ·
   rcases q with q | q
   · exact q1 (.inr (.inr q))
   · omega
  ·
   rcases q with q | q
   · exact q2 (.inr (.inl q))
   ·
    rcases hv with hv | hv
    · rw [hv] at q;exact q2 (.inr (.inr q))
    · rw [hv] at q;injection q with q;omega
  ·
   rw [hs3];rcases q with q | q
   · have:=hob b q;omega
   · exact (hon b q).2
  ·
   rcases q with q | q
   · exact h.em.xgr.1 (.inl q)
   ·
    rcases hv with hv | hv
    · rw [hv] at q;exact h.em.xgr.1 (.inr q)
    · rw [hv] at q;injection q with q;rcases h.em.grl with h1 | h1 <;> omega
  ·
   rcases q with q | q
   · have:=hob _ q;omega
   · have:=hon _ q;omega
theorem CO.emit (h : CO w gA lA pA gc lc pc nm bs kb ge gA' gc' lA' lc' jp je xs Ap cp Ae ce gr A c css W) (k : EmNew W ge (ge + 1) gr ⟨gA, gc, lA, lc, pA, nm.length, pc, XO Ap jp cp Ae je ce⟩ ys W') :
  ∃ gr' A' c' css',CO w gA lA pA gc lc pc nm bs kb ge gA' gc' lA' lc' jp je ys Ap cp Ae ce gr' A' c' css' W':=by
 obtain ⟨gr',A',c',css',h1,h2,hF⟩:=k;have hlo:=h.lo;have hkl:=(Array.getElem?_eq_some_iff.1 h.k).1;have hgl:=h.em.grl;have hx:=h.em.xgr;refine ⟨gr',A',c',css',h.held.fr hF (fun b e=>by omega),(hF.block _ hkl (by omega)).trans h.k,hlo,hF.own h.g (fun b e q=>by have:=h.gk b e;omega),hF.own h.l (fun b e q=>by have:=h.lk b e;omega),h.gk,h.lk,hF.own h.po (fun b e q=>?_),hF.own h.eo (fun b e q=>?_),h.ne,h2⟩
 ·
  rcases q with q | q
  · exact hx.2 (.inl (by rw [← q];exact e))
  · exact hx.1 (.inl (by rw [← q];exact e))
 ·
  rcases q with q | q
  · exact hx.2 (.inr (by rw [← q];exact e))
  · exact hx.1 (.inr (by rw [← q];exact e))
end
theorem entD_get {nm : List ByteArray} {bs : List (List St)} {j : Nat} (h : j < (entD nm bs).length) : (entD nm bs)[j] = (insD nm (bs.take j)).length:=by simp [entD]
theorem entD_len (nm : List ByteArray) (bs : List (List St)) : (entD nm bs).length = bs.length:=by simp [entD]
def cdOf (nm : List ByteArray) (bs : List (List St)) : Cd:=⟨globL,lockL,nm,(entD nm bs).map fun (n : Nat)=>(n : Int),insD nm bs⟩
def CodeGot (w : World) (k : Cd) (e : Ending) (w' : World) : Prop :=
 ∃ v : CV,e = .returned (.tuple #[.agg #[.slice v.gA k.globals.length v.gc, .slice v.lA k.locks.length v.lc, .slice v.pA k.procs.length v.pc, .slice v.eA k.entry.length v.ec, .slice v.iA k.ins.length v.ic],.bool true]) ∧ CodeAt (High w' w.heap.size) w'.heap.size v k ∧ Below w.heap.size w w'
theorem results_row_tmp {P : Program} {fn : Func} {p u : Tmp} {ty : TypeId} (h : fn.results = #[.cell p ty, .tmp u]) (tmps : Array Value) (w : World) (g : Nat) (t : TypeId) (cs : Array Value) (fr : Nat × Nat) (d : TypeDesc)
  (hp : tmps.getD p undef = .pointer (some ⟨g,0,none⟩)) (hg : w.heap[g]? = some (.cells cs t fr))
  (hu : P.underlying ty = some d) (hd : (match d with | .struct _ | .array _ _=>true | _=>false) = true) (hi : (P.info? ty).map (·.size) = some cs.size) :
  (results fn tmps).run P w = .ok (.tuple #[.agg cs,tmps.getD u undef]) w:=by
 rw [results_cell_tmp h,hp];simp [asAddr,run_loadVar_row w g t ty cs fr d hg hu hd hi]
section
variable {w W : World} {gA lA pA : Option Addr} {gc lc pc : Nat} {nm : List ByteArray} {bs : List (List St)} {kb ge : Nat} {gA' : Option Addr} {gc' : Nat} {lA' : Option Addr} {lc' : Nat} {Ap : Option Addr} {cp : Nat} {Ae : Option Addr} {ce : Nat} {gr : Nat} {A : Option Addr} {c : Nat} {css : List (List Value)}
theorem CO.done (h : CO w gA lA pA gc lc pc nm bs kb ge gA' gc' lA' lc' nm.length nm.length (insD nm bs) Ap cp Ae ce gr A c css W) (hlen : bs.length = nm.length) {W' : World}
  (hW : W' = (((((W.setCell ⟨kb,4,none⟩ (.slice A (insD nm bs).length c)).setCell ⟨w.heap.size + 1,0,none⟩ (.slice gA' 4 gc')).setCell ⟨w.heap.size + 1,1,none⟩ (.slice lA' 3 lc')).setCell ⟨w.heap.size + 1,2,none⟩ (.slice Ap nm.length cp)).setCell ⟨w.heap.size + 1,3,none⟩ (.slice Ae nm.length ce)).setCell ⟨w.heap.size + 1,4,none⟩ (.slice A (insD nm bs).length c)) :
  W'.heap[w.heap.size + 1]? = some (.cells #[.slice gA' 4 gc',.slice lA' 3 lc',.slice Ap nm.length cp,.slice Ae nm.length ce,.slice A (insD nm bs).length c] 45) ∧
   CodeAt (High W' w.heap.size) W'.heap.size ⟨gA',lA',Ap,Ae,A,gc',lc',cp,ce,c⟩ (cdOf nm bs) ∧ Below w.heap.size w W':=by
 have hlo:=h.lo;have hel : (entD nm bs).length = nm.length:=by rw [entD_len,hlen]
 have hF1 : Fr (fun b=>b = kb ∨ b = w.heap.size + 1) W (W.setCell ⟨kb,4,none⟩ (.slice A (insD nm bs).length c)):=Fr.set (S:=fun b=>b = kb ∨ b = w.heap.size + 1) (Fr.refl _ W) (a:=⟨kb,4,none⟩) (fun _=>.inl rfl) _;have hF : Fr (fun b=>b = kb ∨ b = w.heap.size + 1) W W':=by
  rw [hW];exact ((((hF1.set (a:=⟨w.heap.size + 1,0,none⟩) (fun _=>.inr rfl) _).set (a:=⟨w.heap.size + 1,1,none⟩) (fun _=>.inr rfl) _).set (a:=⟨w.heap.size + 1,2,none⟩) (fun _=>.inr rfl) _).set (a:=⟨w.heap.size + 1,3,none⟩) (fun _=>.inr rfl) _).set (a:=⟨w.heap.size + 1,4,none⟩) (fun _=>.inr rfl) _
 have h1 : (W.setCell ⟨kb,4,none⟩ (.slice A (insD nm bs).length c)).heap[w.heap.size + 1]? = some (.cells #[.slice none 0 0,.slice none 0 0,.slice none 0 0,.slice none 0 0,.slice none 0 0] 45) :=
  ((Fr.set (S:=fun b=>b = kb) (Fr.refl _ W) (a:=⟨kb,4,none⟩) (fun _=>rfl) (.slice A (insD nm bs).length c)).block _ (Array.getElem?_eq_some_iff.1 h.held.out).1 (by omega)).trans h.held.out
 have hk2:=h.held.two;refine ⟨by rw [hW];exact set_row (set_row (set_row (set_row (set_row h1 0 _) 1 _) 2 _) 3 _) 4 _,⟨own_cap h.g,own_cap h.l,own_cap h.po,by show ((entD nm bs).map fun (n : Nat)=>(n : Int)).length ≤ ce;rw [List.length_map,hel];exact own_cap h.eo,own_cap h.em.own,?_,?_,?_,?_,?_⟩,h.held.low.trans (hF.below (B:=w.heap.size) (by omega) fun b hb e=>by omega)⟩
 · exact own_high (own_mono (hF.own h.g fun b e q=>by have:=h.gk b e;have:=(h.g.lt b e).1;omega) (by omega))
 · exact own_high (own_mono (hF.own h.l fun b e q=>by have:=h.lk b e;have:=(h.l.lt b e).1;omega) (by omega))
 ·
  have:=own_high (own_mono (hF.own h.po fun b e q=>by have:=(h.po.lt b e).1;omega) (b:=w.heap.size) (by omega))
  rwa [List.take_of_length_le (Nat.le_refl _)] at this
 ·
  have:=own_high (own_mono (hF.own h.eo fun b e q=>by have:=(h.eo.lt b e).1;omega) (b:=w.heap.size) (by omega));rw [List.take_of_length_le (by omega)] at this;show Rd _ _ Ae (((entD nm bs).map fun (n : Nat)=>(n : Int)).map iv)
  rw [List.map_map];exact this
 · exact (h.em.fr hF (by omega) (fun b e q=>by have:=(h.em.own.lt b e).1;omega) (fun b _ q1 _ q=>by omega)).insAt (by omega)
end
theorem codeOf_any {gA lA pA : Option Addr} {gc lc pc : Nat} {nm : List ByteArray} {bs : List (List St)} (w : World) (hp : ProgAt w gA lA pA nm bs) (hg : PG nm bs) (hgc : 4 ≤ gc) (hlc : 3 ≤ lc) :
  Calls Try.prog 49 #[.agg #[.slice gA 4 gc,.slice lA 3 lc,.slice pA nm.length pc]] w (CodeGot w (cdOf nm bs)):=by
 have HST:=Lib.hid (kHd_start w gA lA pA gc lc pc nm.length);have HP:=Lib.hid (fun V (h : Below w.heap.size w V)=>hp.below h);have HPF:=Lib.hid (fun V (h : Below w.heap.size w V)=>(show Calls Try.prog 59 #[.agg #[.slice gA 4 gc,.slice lA 3 lc,.slice pA nm.length pc]] V fun e w'=>e = .returned (.int .i64 0) ∧ Below V.heap.size V w' from progFault_any V (hp.below h) hg hgc hlc));obtain ⟨ga,rfl⟩ : ∃ ga,gA = some ga:=by
  obtain ⟨ad,e,_⟩:=hp.g 0 (sv globL[0]) (by simp [globL]);exact ⟨ad,e⟩
 obtain ⟨la,rfl⟩ : ∃ la,lA = some la:=by
  obtain ⟨ad,e,_⟩:=hp.l 0 (sv lockL[0]) (by simp [lockL]);exact ⟨ad,e⟩
 have HRG:=Lib.hid (fun V (h : Below w.heap.size w V) j u (hu : (globL.map sv)[j]? = some u)=>(show V.cell? (ga.add j) = some u from by
  obtain ⟨ad,e,_,hc⟩:=(hp.below h).g j u hu;injection e with e;rw [e];exact hc))
 have HRL:=Lib.hid (fun V (h : Below w.heap.size w V) j u (hu : (lockL.map sv)[j]? = some u)=>(show V.cell? (la.add j) = some u from by
  obtain ⟨ad,e,_,hc⟩:=(hp.below h).l j u hu;injection e with e;rw [e];exact hc))
 have HSS:=Lib.hid (fun X ss=>l08Stmts_any (nm:=nm) (bs:=bs) (P:=⟨some ga,gc,some la,lc,pA,nm.length,pc,X⟩) (w0:=w) hp rfl hg (St.cntL ss) ss rfl);have HL:=Lib.hid hg.len;have HG:=Lib.hid hg.good;have HBL:=Lib.hid (fun i (hi : i ≤ bs.length)=>begD_le (ps:=nm) (bs:=bs) (fun b hb=>(hg.good b hb).2) i hi);have hn4:=hg.n4;clear hp hg
 go_enter Try.func49, Try.ntmps49
 go_wp2_with fail
 generalize (w.alloc (.cells #[.slice (some ga) 4 gc,.slice (some la) 3 lc,.slice pA nm.length pc] 83)).alloc (.cells #[.slice none 0 0,.slice none 0 0,.slice none 0 0,.slice none 0 0,.slice none 0 0] 45) = W at HST ⊢;obtain ⟨p0,p1,p2⟩:=HST.out.p;refine (HPF.out _ HST.out.low).mono ?_;rintro e w1 ⟨rfl,hb1⟩;have HK1:=Lib.hid (HST.out.to hb1);clear HST HPF hb1 p0 p1 p2;obtain ⟨p0,p1,p2⟩:=HK1.out.p;go_upto_region 3 with fail
 go_cut [4] from 11 to 19 (fun kv w'=>∃ kb gA' gc' lA' lc',kv = .pointer (some ⟨kb,0,none⟩) ∧ KN w (some ga) (some la) pA gc lc pc nm.length kb gA' gc' lA' lc' w')
 case first =>
  clear p0 p1 p2;have HKR:=Lib.hid (KR.start (HK1.out.to (below_drew _)));clear HK1;refine wp_region_held_drew (S:=fun w'=>KHd w (some ga) (some la) pA gc lc pc nm.length w') (by kernel_rfl) (HKR.out.held) (fun hHeld=>?_);first | refine hs_ 1 ?_ | (refine hr_ 1 ?_ ?_ ?_;rotate_left;(intro W hW;obtain ⟨q0,q1,q2⟩:=hW.p;go_simp;try with_reducible rfl))
  first | refine hs_ 2 ?_ | (refine hr_ 2 ?_ ?_ ?_;rotate_left;(intro W hW;obtain ⟨q0,q1,q2⟩:=hW.p;go_simp;try with_reducible rfl))
  first | refine hs_ 5 ?_ | (refine hr_ 5 ?_ ?_ ?_;rotate_left;(intro W hW;obtain ⟨q0,q1,q2⟩:=hW.p;go_simp;try with_reducible rfl))
  first | refine hs_ 6 ?_ | (refine hr_ 6 ?_ ?_ ?_;rotate_left;(intro W hW;obtain ⟨q0,q1,q2⟩:=hW.p;go_simp;try with_reducible rfl))
  refine hand_three (i:=0) (j:=4) (m:=9) rfl rfl rfl (by kernel_rfl) (fun K hK=>?_) (fun K hK=>?_) (fun K hK=>?_) 
  ·
   refine q_yes (by kernel_rfl) ?_;go_simp
   replace HKR:=Lib.hid HKR.out.lita
   try simp only [World.size_alloc,World.size_drew] at HKR
   refine hk_ hK (HKR.out.held) fun hHeld=>?_;clear hK K;refine hand_three (i:=3) (j:=4) (m:=9) rfl rfl rfl (by kernel_rfl) (fun K hK=>?_) (fun K hK=>?_) (fun K hK=>?_) 
   ·
    refine q_yes (by kernel_rfl) ?_;refine append_rd_op Try.underlying41 info_str rfl (by omega) (by omega) (.tmp 11) (.tmp 13) rfl (globL.map sv) (HKR.out.a _ _ rfl) rfl rfl (fun j u hu=>HRG.out _ HKR.out.held.low j u hu) (by simp [globL]) (by simp [globL,sv,Value.oneCell']) (by omega) (HKR.out.held.two) ?_;intro A3 c3 w3 ho3 hg3 hv3;simp only [Nat.zero_add,List.nil_append] at ho3 hv3
    replace HKR:=Lib.hid (HKR.out.appa ho3 hg3 hv3)
    clear ho3 hg3 hv3;refine hk_ hK (HKR.out.held) fun hHeld=>?_;clear hK K;refine hand_two (i:=4) (j:=9) rfl rfl (by kernel_rfl) (fun K hK=>?_) (fun K hK=>?_) 
    ·
     refine q_yes (by kernel_rfl) ?_;go_simp
     replace HKR:=Lib.hid HKR.out.litb
     try simp only [World.size_alloc,World.size_drew] at HKR
     refine hk_ hK (HKR.out.held) fun hHeld=>?_;clear hK K;refine hand_two (i:=7) (j:=9) rfl rfl (by kernel_rfl) (fun K hK=>?_) (fun K hK=>?_) 
     ·
      refine q_yes (by kernel_rfl) ?_;refine append_rd_op Try.underlying41 info_str rfl (by omega) (by omega) (.tmp 15) (.tmp 17) rfl (lockL.map sv) (HKR.out.b _ _ rfl) rfl rfl (fun j u hu=>HRL.out _ HKR.out.held.low j u hu) (by simp [lockL]) (by simp [lockL,sv,Value.oneCell']) (by omega) (HKR.out.held.two) ?_;intro A7 c7 w7 ho7 hg7 hv7;simp only [Nat.zero_add,List.nil_append] at ho7 hv7
      replace HKR:=Lib.hid (HKR.out.appb ho7 hg7 hv7)
      clear ho7 hg7 hv7;refine hk_ hK (HKR.out.held) fun hHeld=>?_;clear hK K;first | refine hs_ 8 ?_ | (refine hr_ 8 ?_ ?_ ?_;rotate_left;(intro W hW;obtain ⟨q0,q1,q2⟩:=hW.p;go_simp;try with_reducible rfl))
      refine ho_ 9 fun K hK=>?_;go_simp
      have HKP:=HKR
      replace HKR:=Lib.hid HKR.out.box
      try simp only [World.size_alloc,World.size_drew] at HKR
      refine hk_ hK (HKR.out.held) fun hHeld=>?_;clear hK K;refine hand_one (i:=10) rfl (by kernel_rfl) (fun K hK=>?_);obtain ⟨kq,_⟩:=HKR.out.k _ rfl;obtain ⟨kr,kf⟩:=row_facts kq;have t0:=kr 0 _ rfl;have t1:=kr 1 _ rfl;have t2:=kr 2 _ rfl;have t3:=kr 3 _ rfl;have t4:=kr 4 _ rfl;have f0:=kf 0;have f1:=kf 1;have f2:=kf 2;have f3:=kf 3;have f4:=kf 4;clear kq kr kf;refine q_yes (by kernel_rfl) ?_;go_simp
      skip
      refine hk_ hK (by first | exact HKR.out.done.held | exact HKP.out.done2.held) fun hHeld=>?_;clear hK K;refine wpAnyH_done (by kernel_rfl) ?_ _;clear t0 t1 t2 t3 t4 f0 f1 f2 f3 f4;go_wp2_with fail
      go_meet
      exact ⟨_,_,_,_,_,rfl,by first | exact HKR.out.done | exact HKP.out.done2⟩
     ·
      refine q_yes (by kernel_rfl) ?_;go_simp
      have HKP:=HKR
      replace HKR:=Lib.hid HKR.out.box
      try simp only [World.size_alloc,World.size_drew] at HKR
      refine hk_ hK (HKR.out.held) fun hHeld=>?_;clear hK K;refine ho_ 7 fun K hK=>?_;refine append_rd_op Try.underlying41 info_str rfl (by omega) (by omega) (.tmp 15) (.tmp 17) rfl (lockL.map sv) (HKR.out.b _ _ rfl) rfl rfl (fun j u hu=>HRL.out _ HKR.out.held.low j u hu) (by simp [lockL]) (by simp [lockL,sv,Value.oneCell']) (by omega) (HKR.out.held.two) ?_;intro A7 c7 w7 ho7 hg7 hv7;simp only [Nat.zero_add,List.nil_append] at ho7 hv7
      replace HKR:=Lib.hid (HKR.out.appb ho7 hg7 hv7)
      clear ho7 hg7 hv7;refine hk_ hK (HKR.out.held) fun hHeld=>?_;clear hK K;first | refine hs_ 8 ?_ | (refine hr_ 8 ?_ ?_ ?_;rotate_left;(intro W hW;obtain ⟨q0,q1,q2⟩:=hW.p;go_simp;try with_reducible rfl))
      refine hand_one (i:=10) rfl (by kernel_rfl) (fun K hK=>?_);obtain ⟨kq,_⟩:=HKR.out.k _ rfl;obtain ⟨kr,kf⟩:=row_facts kq;have t0:=kr 0 _ rfl;have t1:=kr 1 _ rfl;have t2:=kr 2 _ rfl;have t3:=kr 3 _ rfl;have t4:=kr 4 _ rfl;have f0:=kf 0;have f1:=kf 1;have f2:=kf 2;have f3:=kf 3;have f4:=kf 4;clear kq kr kf;refine q_yes (by kernel_rfl) ?_;go_simp
      skip
      refine hk_ hK (by first | exact HKR.out.done.held | exact HKP.out.done2.held) fun hHeld=>?_;clear hK K;refine wpAnyH_done (by kernel_rfl) ?_ _;clear t0 t1 t2 t3 t4 f0 f1 f2 f3 f4;go_wp2_with fail
      go_meet
      exact ⟨_,_,_,_,_,rfl,by first | exact HKR.out.done | exact HKP.out.done2⟩
    ·
     refine q_yes (by kernel_rfl) ?_;go_simp
     have HKP:=HKR
     replace HKR:=Lib.hid HKR.out.box
     try simp only [World.size_alloc,World.size_drew] at HKR
     refine hk_ hK (HKR.out.held) fun hHeld=>?_;clear hK K;refine ho_ 4 fun K hK=>?_;go_simp
     replace HKR:=Lib.hid HKR.out.litb
     try simp only [World.size_alloc,World.size_drew] at HKR
     refine hk_ hK (HKR.out.held) fun hHeld=>?_;clear hK K;refine ho_ 7 fun K hK=>?_;refine append_rd_op Try.underlying41 info_str rfl (by omega) (by omega) (.tmp 15) (.tmp 17) rfl (lockL.map sv) (HKR.out.b _ _ rfl) rfl rfl (fun j u hu=>HRL.out _ HKR.out.held.low j u hu) (by simp [lockL]) (by simp [lockL,sv,Value.oneCell']) (by omega) (HKR.out.held.two) ?_;intro A7 c7 w7 ho7 hg7 hv7;simp only [Nat.zero_add,List.nil_append] at ho7 hv7
     replace HKR:=Lib.hid (HKR.out.appb ho7 hg7 hv7)
     clear ho7 hg7 hv7;refine hk_ hK (HKR.out.held) fun hHeld=>?_;clear hK K;first | refine hs_ 8 ?_ | (refine hr_ 8 ?_ ?_ ?_;rotate_left;(intro W hW;obtain ⟨q0,q1,q2⟩:=hW.p;go_simp;try with_reducible rfl))
     refine hand_one (i:=10) rfl (by kernel_rfl) (fun K hK=>?_);obtain ⟨kq,_⟩:=HKR.out.k _ rfl;obtain ⟨kr,kf⟩:=row_facts kq;have t0:=kr 0 _ rfl;have t1:=kr 1 _ rfl;have t2:=kr 2 _ rfl;have t3:=kr 3 _ rfl;have t4:=kr 4 _ rfl;have f0:=kf 0;have f1:=kf 1;have f2:=kf 2;have f3:=kf 3;have f4:=kf 4;clear kq kr kf;refine q_yes (by kernel_rfl) ?_;go_simp
     skip
     refine hk_ hK (by first | exact HKR.out.done.held | exact HKP.out.done2.held) fun hHeld=>?_;clear hK K;refine wpAnyH_done (by kernel_rfl) ?_ _;clear t0 t1 t2 t3 t4 f0 f1 f2 f3 f4;go_wp2_with fail
     go_meet
     exact ⟨_,_,_,_,_,rfl,by first | exact HKR.out.done | exact HKP.out.done2⟩
   ·
    refine q_yes (by kernel_rfl) ?_;go_simp
    replace HKR:=Lib.hid HKR.out.litb
    try simp only [World.size_alloc,World.size_drew] at HKR
    refine hk_ hK (HKR.out.held) fun hHeld=>?_;clear hK K;refine hand_two (i:=3) (j:=9) rfl rfl (by kernel_rfl) (fun K hK=>?_) (fun K hK=>?_) 
    ·
     refine q_yes (by kernel_rfl) ?_;refine append_rd_op Try.underlying41 info_str rfl (by omega) (by omega) (.tmp 11) (.tmp 13) rfl (globL.map sv) (HKR.out.a _ _ rfl) rfl rfl (fun j u hu=>HRG.out _ HKR.out.held.low j u hu) (by simp [globL]) (by simp [globL,sv,Value.oneCell']) (by omega) (HKR.out.held.two) ?_;intro A3 c3 w3 ho3 hg3 hv3;simp only [Nat.zero_add,List.nil_append] at ho3 hv3
     replace HKR:=Lib.hid (HKR.out.appa ho3 hg3 hv3)
     clear ho3 hg3 hv3;refine hk_ hK (HKR.out.held) fun hHeld=>?_;clear hK K;refine hand_two (i:=7) (j:=9) rfl rfl (by kernel_rfl) (fun K hK=>?_) (fun K hK=>?_) 
     ·
      refine q_yes (by kernel_rfl) ?_;refine append_rd_op Try.underlying41 info_str rfl (by omega) (by omega) (.tmp 15) (.tmp 17) rfl (lockL.map sv) (HKR.out.b _ _ rfl) rfl rfl (fun j u hu=>HRL.out _ HKR.out.held.low j u hu) (by simp [lockL]) (by simp [lockL,sv,Value.oneCell']) (by omega) (HKR.out.held.two) ?_;intro A7 c7 w7 ho7 hg7 hv7;simp only [Nat.zero_add,List.nil_append] at ho7 hv7
      replace HKR:=Lib.hid (HKR.out.appb ho7 hg7 hv7)
      clear ho7 hg7 hv7;refine hk_ hK (HKR.out.held) fun hHeld=>?_;clear hK K;first | refine hs_ 8 ?_ | (refine hr_ 8 ?_ ?_ ?_;rotate_left;(intro W hW;obtain ⟨q0,q1,q2⟩:=hW.p;go_simp;try with_reducible rfl))
      refine ho_ 9 fun K hK=>?_;go_simp
      have HKP:=HKR
      replace HKR:=Lib.hid HKR.out.box
      try simp only [World.size_alloc,World.size_drew] at HKR
      refine hk_ hK (HKR.out.held) fun hHeld=>?_;clear hK K;refine hand_one (i:=10) rfl (by kernel_rfl) (fun K hK=>?_);obtain ⟨kq,_⟩:=HKR.out.k _ rfl;obtain ⟨kr,kf⟩:=row_facts kq;have t0:=kr 0 _ rfl;have t1:=kr 1 _ rfl;have t2:=kr 2 _ rfl;have t3:=kr 3 _ rfl;have t4:=kr 4 _ rfl;have f0:=kf 0;have f1:=kf 1;have f2:=kf 2;have f3:=kf 3;have f4:=kf 4;clear kq kr kf;refine q_yes (by kernel_rfl) ?_;go_simp
      skip
      refine hk_ hK (by first | exact HKR.out.done.held | exact HKP.out.done2.held) fun hHeld=>?_;clear hK K;refine wpAnyH_done (by kernel_rfl) ?_ _;clear t0 t1 t2 t3 t4 f0 f1 f2 f3 f4;go_wp2_with fail
      go_meet
      exact ⟨_,_,_,_,_,rfl,by first | exact HKR.out.done | exact HKP.out.done2⟩
     ·
      refine q_yes (by kernel_rfl) ?_;go_simp
      have HKP:=HKR
      replace HKR:=Lib.hid HKR.out.box
      try simp only [World.size_alloc,World.size_drew] at HKR
      refine hk_ hK (HKR.out.held) fun hHeld=>?_;clear hK K;refine ho_ 7 fun K hK=>?_;refine append_rd_op Try.underlying41 info_str rfl (by omega) (by omega) (.tmp 15) (.tmp 17) rfl (lockL.map sv) (HKR.out.b _ _ rfl) rfl rfl (fun j u hu=>HRL.out _ HKR.out.held.low j u hu) (by simp [lockL]) (by simp [lockL,sv,Value.oneCell']) (by omega) (HKR.out.held.two) ?_;intro A7 c7 w7 ho7 hg7 hv7;simp only [Nat.zero_add,List.nil_append] at ho7 hv7
      replace HKR:=Lib.hid (HKR.out.appb ho7 hg7 hv7)
      clear ho7 hg7 hv7;refine hk_ hK (HKR.out.held) fun hHeld=>?_;clear hK K;first | refine hs_ 8 ?_ | (refine hr_ 8 ?_ ?_ ?_;rotate_left;(intro W hW;obtain ⟨q0,q1,q2⟩:=hW.p;go_simp;try with_reducible rfl))
      refine hand_one (i:=10) rfl (by kernel_rfl) (fun K hK=>?_);obtain ⟨kq,_⟩:=HKR.out.k _ rfl;obtain ⟨kr,kf⟩:=row_facts kq;have t0:=kr 0 _ rfl;have t1:=kr 1 _ rfl;have t2:=kr 2 _ rfl;have t3:=kr 3 _ rfl;have t4:=kr 4 _ rfl;have f0:=kf 0;have f1:=kf 1;have f2:=kf 2;have f3:=kf 3;have f4:=kf 4;clear kq kr kf;refine q_yes (by kernel_rfl) ?_;go_simp
      skip
      refine hk_ hK (by first | exact HKR.out.done.held | exact HKP.out.done2.held) fun hHeld=>?_;clear hK K;refine wpAnyH_done (by kernel_rfl) ?_ _;clear t0 t1 t2 t3 t4 f0 f1 f2 f3 f4;go_wp2_with fail
      go_meet
      exact ⟨_,_,_,_,_,rfl,by first | exact HKR.out.done | exact HKP.out.done2⟩
    ·
     refine q_yes (by kernel_rfl) ?_;go_simp
     have HKP:=HKR
     replace HKR:=Lib.hid HKR.out.box
     try simp only [World.size_alloc,World.size_drew] at HKR
     refine hk_ hK (HKR.out.held) fun hHeld=>?_;clear hK K;refine ho_ 3 fun K hK=>?_;refine append_rd_op Try.underlying41 info_str rfl (by omega) (by omega) (.tmp 11) (.tmp 13) rfl (globL.map sv) (HKR.out.a _ _ rfl) rfl rfl (fun j u hu=>HRG.out _ HKR.out.held.low j u hu) (by simp [globL]) (by simp [globL,sv,Value.oneCell']) (by omega) (HKR.out.held.two) ?_;intro A3 c3 w3 ho3 hg3 hv3;simp only [Nat.zero_add,List.nil_append] at ho3 hv3
     replace HKR:=Lib.hid (HKR.out.appa ho3 hg3 hv3)
     clear ho3 hg3 hv3;refine hk_ hK (HKR.out.held) fun hHeld=>?_;clear hK K;refine ho_ 7 fun K hK=>?_;refine append_rd_op Try.underlying41 info_str rfl (by omega) (by omega) (.tmp 15) (.tmp 17) rfl (lockL.map sv) (HKR.out.b _ _ rfl) rfl rfl (fun j u hu=>HRL.out _ HKR.out.held.low j u hu) (by simp [lockL]) (by simp [lockL,sv,Value.oneCell']) (by omega) (HKR.out.held.two) ?_;intro A7 c7 w7 ho7 hg7 hv7;simp only [Nat.zero_add,List.nil_append] at ho7 hv7
     replace HKR:=Lib.hid (HKR.out.appb ho7 hg7 hv7)
     clear ho7 hg7 hv7;refine hk_ hK (HKR.out.held) fun hHeld=>?_;clear hK K;first | refine hs_ 8 ?_ | (refine hr_ 8 ?_ ?_ ?_;rotate_left;(intro W hW;obtain ⟨q0,q1,q2⟩:=hW.p;go_simp;try with_reducible rfl))
     refine hand_one (i:=10) rfl (by kernel_rfl) (fun K hK=>?_);obtain ⟨kq,_⟩:=HKR.out.k _ rfl;obtain ⟨kr,kf⟩:=row_facts kq;have t0:=kr 0 _ rfl;have t1:=kr 1 _ rfl;have t2:=kr 2 _ rfl;have t3:=kr 3 _ rfl;have t4:=kr 4 _ rfl;have f0:=kf 0;have f1:=kf 1;have f2:=kf 2;have f3:=kf 3;have f4:=kf 4;clear kq kr kf;refine q_yes (by kernel_rfl) ?_;go_simp
     skip
     refine hk_ hK (by first | exact HKR.out.done.held | exact HKP.out.done2.held) fun hHeld=>?_;clear hK K;refine wpAnyH_done (by kernel_rfl) ?_ _;clear t0 t1 t2 t3 t4 f0 f1 f2 f3 f4;go_wp2_with fail
     go_meet
     exact ⟨_,_,_,_,_,rfl,by first | exact HKR.out.done | exact HKP.out.done2⟩
   ·
    refine q_yes (by kernel_rfl) ?_;go_simp
    have HKP:=HKR
    replace HKR:=Lib.hid HKR.out.box
    try simp only [World.size_alloc,World.size_drew] at HKR
    refine hk_ hK (HKR.out.held) fun hHeld=>?_;clear hK K;refine hand_two (i:=3) (j:=4) rfl rfl (by kernel_rfl) (fun K hK=>?_) (fun K hK=>?_) 
    ·
     refine q_yes (by kernel_rfl) ?_;refine append_rd_op Try.underlying41 info_str rfl (by omega) (by omega) (.tmp 11) (.tmp 13) rfl (globL.map sv) (HKR.out.a _ _ rfl) rfl rfl (fun j u hu=>HRG.out _ HKR.out.held.low j u hu) (by simp [globL]) (by simp [globL,sv,Value.oneCell']) (by omega) (HKR.out.held.two) ?_;intro A3 c3 w3 ho3 hg3 hv3;simp only [Nat.zero_add,List.nil_append] at ho3 hv3
     replace HKR:=Lib.hid (HKR.out.appa ho3 hg3 hv3)
     clear ho3 hg3 hv3;refine hk_ hK (HKR.out.held) fun hHeld=>?_;clear hK K;refine ho_ 4 fun K hK=>?_;go_simp
     replace HKR:=Lib.hid HKR.out.litb
     try simp only [World.size_alloc,World.size_drew] at HKR
     refine hk_ hK (HKR.out.held) fun hHeld=>?_;clear hK K;refine ho_ 7 fun K hK=>?_;refine append_rd_op Try.underlying41 info_str rfl (by omega) (by omega) (.tmp 15) (.tmp 17) rfl (lockL.map sv) (HKR.out.b _ _ rfl) rfl rfl (fun j u hu=>HRL.out _ HKR.out.held.low j u hu) (by simp [lockL]) (by simp [lockL,sv,Value.oneCell']) (by omega) (HKR.out.held.two) ?_;intro A7 c7 w7 ho7 hg7 hv7;simp only [Nat.zero_add,List.nil_append] at ho7 hv7
     replace HKR:=Lib.hid (HKR.out.appb ho7 hg7 hv7)
     clear ho7 hg7 hv7;refine hk_ hK (HKR.out.held) fun hHeld=>?_;clear hK K;first | refine hs_ 8 ?_ | (refine hr_ 8 ?_ ?_ ?_;rotate_left;(intro W hW;obtain ⟨q0,q1,q2⟩:=hW.p;go_simp;try with_reducible rfl))
     refine hand_one (i:=10) rfl (by kernel_rfl) (fun K hK=>?_);obtain ⟨kq,_⟩:=HKR.out.k _ rfl;obtain ⟨kr,kf⟩:=row_facts kq;have t0:=kr 0 _ rfl;have t1:=kr 1 _ rfl;have t2:=kr 2 _ rfl;have t3:=kr 3 _ rfl;have t4:=kr 4 _ rfl;have f0:=kf 0;have f1:=kf 1;have f2:=kf 2;have f3:=kf 3;have f4:=kf 4;clear kq kr kf;refine q_yes (by kernel_rfl) ?_;go_simp
     skip
     refine hk_ hK (by first | exact HKR.out.done.held | exact HKP.out.done2.held) fun hHeld=>?_;clear hK K;refine wpAnyH_done (by kernel_rfl) ?_ _;clear t0 t1 t2 t3 t4 f0 f1 f2 f3 f4;go_wp2_with fail
     go_meet
     exact ⟨_,_,_,_,_,rfl,by first | exact HKR.out.done | exact HKP.out.done2⟩
    ·
     refine q_yes (by kernel_rfl) ?_;go_simp
     replace HKR:=Lib.hid HKR.out.litb
     try simp only [World.size_alloc,World.size_drew] at HKR
     refine hk_ hK (HKR.out.held) fun hHeld=>?_;clear hK K;refine ho_ 3 fun K hK=>?_;refine append_rd_op Try.underlying41 info_str rfl (by omega) (by omega) (.tmp 11) (.tmp 13) rfl (globL.map sv) (HKR.out.a _ _ rfl) rfl rfl (fun j u hu=>HRG.out _ HKR.out.held.low j u hu) (by simp [globL]) (by simp [globL,sv,Value.oneCell']) (by omega) (HKR.out.held.two) ?_;intro A3 c3 w3 ho3 hg3 hv3;simp only [Nat.zero_add,List.nil_append] at ho3 hv3
     replace HKR:=Lib.hid (HKR.out.appa ho3 hg3 hv3)
     clear ho3 hg3 hv3;refine hk_ hK (HKR.out.held) fun hHeld=>?_;clear hK K;refine ho_ 7 fun K hK=>?_;refine append_rd_op Try.underlying41 info_str rfl (by omega) (by omega) (.tmp 15) (.tmp 17) rfl (lockL.map sv) (HKR.out.b _ _ rfl) rfl rfl (fun j u hu=>HRL.out _ HKR.out.held.low j u hu) (by simp [lockL]) (by simp [lockL,sv,Value.oneCell']) (by omega) (HKR.out.held.two) ?_;intro A7 c7 w7 ho7 hg7 hv7;simp only [Nat.zero_add,List.nil_append] at ho7 hv7
     replace HKR:=Lib.hid (HKR.out.appb ho7 hg7 hv7)
     clear ho7 hg7 hv7;refine hk_ hK (HKR.out.held) fun hHeld=>?_;clear hK K;first | refine hs_ 8 ?_ | (refine hr_ 8 ?_ ?_ ?_;rotate_left;(intro W hW;obtain ⟨q0,q1,q2⟩:=hW.p;go_simp;try with_reducible rfl))
     refine hand_one (i:=10) rfl (by kernel_rfl) (fun K hK=>?_);obtain ⟨kq,_⟩:=HKR.out.k _ rfl;obtain ⟨kr,kf⟩:=row_facts kq;have t0:=kr 0 _ rfl;have t1:=kr 1 _ rfl;have t2:=kr 2 _ rfl;have t3:=kr 3 _ rfl;have t4:=kr 4 _ rfl;have f0:=kf 0;have f1:=kf 1;have f2:=kf 2;have f3:=kf 3;have f4:=kf 4;clear kq kr kf;refine q_yes (by kernel_rfl) ?_;go_simp
     skip
     refine hk_ hK (by first | exact HKR.out.done.held | exact HKP.out.done2.held) fun hHeld=>?_;clear hK K;refine wpAnyH_done (by kernel_rfl) ?_ _;clear t0 t1 t2 t3 t4 f0 f1 f2 f3 f4;go_wp2_with fail
     go_meet
     exact ⟨_,_,_,_,_,rfl,by first | exact HKR.out.done | exact HKP.out.done2⟩
  ·
   refine q_yes (by kernel_rfl) ?_;go_simp
   replace HKR:=Lib.hid HKR.out.litb
   try simp only [World.size_alloc,World.size_drew] at HKR
   refine hk_ hK (HKR.out.held) fun hHeld=>?_;clear hK K;refine hand_two (i:=0) (j:=9) rfl rfl (by kernel_rfl) (fun K hK=>?_) (fun K hK=>?_) 
   ·
    refine q_yes (by kernel_rfl) ?_;go_simp
    replace HKR:=Lib.hid HKR.out.lita
    try simp only [World.size_alloc,World.size_drew] at HKR
    refine hk_ hK (HKR.out.held) fun hHeld=>?_;clear hK K;refine hand_two (i:=3) (j:=9) rfl rfl (by kernel_rfl) (fun K hK=>?_) (fun K hK=>?_) 
    ·
     refine q_yes (by kernel_rfl) ?_;refine append_rd_op Try.underlying41 info_str rfl (by omega) (by omega) (.tmp 11) (.tmp 13) rfl (globL.map sv) (HKR.out.a _ _ rfl) rfl rfl (fun j u hu=>HRG.out _ HKR.out.held.low j u hu) (by simp [globL]) (by simp [globL,sv,Value.oneCell']) (by omega) (HKR.out.held.two) ?_;intro A3 c3 w3 ho3 hg3 hv3;simp only [Nat.zero_add,List.nil_append] at ho3 hv3
     replace HKR:=Lib.hid (HKR.out.appa ho3 hg3 hv3)
     clear ho3 hg3 hv3;refine hk_ hK (HKR.out.held) fun hHeld=>?_;clear hK K;refine hand_two (i:=7) (j:=9) rfl rfl (by kernel_rfl) (fun K hK=>?_) (fun K hK=>?_) 
     ·
      refine q_yes (by kernel_rfl) ?_;refine append_rd_op Try.underlying41 info_str rfl (by omega) (by omega) (.tmp 15) (.tmp 17) rfl (lockL.map sv) (HKR.out.b _ _ rfl) rfl rfl (fun j u hu=>HRL.out _ HKR.out.held.low j u hu) (by simp [lockL]) (by simp [lockL,sv,Value.oneCell']) (by omega) (HKR.out.held.two) ?_;intro A7 c7 w7 ho7 hg7 hv7;simp only [Nat.zero_add,List.nil_append] at ho7 hv7
      replace HKR:=Lib.hid (HKR.out.appb ho7 hg7 hv7)
      clear ho7 hg7 hv7;refine hk_ hK (HKR.out.held) fun hHeld=>?_;clear hK K;first | refine hs_ 8 ?_ | (refine hr_ 8 ?_ ?_ ?_;rotate_left;(intro W hW;obtain ⟨q0,q1,q2⟩:=hW.p;go_simp;try with_reducible rfl))
      refine ho_ 9 fun K hK=>?_;go_simp
      have HKP:=HKR
      replace HKR:=Lib.hid HKR.out.box
      try simp only [World.size_alloc,World.size_drew] at HKR
      refine hk_ hK (HKR.out.held) fun hHeld=>?_;clear hK K;refine hand_one (i:=10) rfl (by kernel_rfl) (fun K hK=>?_);obtain ⟨kq,_⟩:=HKR.out.k _ rfl;obtain ⟨kr,kf⟩:=row_facts kq;have t0:=kr 0 _ rfl;have t1:=kr 1 _ rfl;have t2:=kr 2 _ rfl;have t3:=kr 3 _ rfl;have t4:=kr 4 _ rfl;have f0:=kf 0;have f1:=kf 1;have f2:=kf 2;have f3:=kf 3;have f4:=kf 4;clear kq kr kf;refine q_yes (by kernel_rfl) ?_;go_simp
      skip
      refine hk_ hK (by first | exact HKR.out.done.held | exact HKP.out.done2.held) fun hHeld=>?_;clear hK K;refine wpAnyH_done (by kernel_rfl) ?_ _;clear t0 t1 t2 t3 t4 f0 f1 f2 f3 f4;go_wp2_with fail
      go_meet
      exact ⟨_,_,_,_,_,rfl,by first | exact HKR.out.done | exact HKP.out.done2⟩
     ·
      refine q_yes (by kernel_rfl) ?_;go_simp
      have HKP:=HKR
      replace HKR:=Lib.hid HKR.out.box
      try simp only [World.size_alloc,World.size_drew] at HKR
      refine hk_ hK (HKR.out.held) fun hHeld=>?_;clear hK K;refine ho_ 7 fun K hK=>?_;refine append_rd_op Try.underlying41 info_str rfl (by omega) (by omega) (.tmp 15) (.tmp 17) rfl (lockL.map sv) (HKR.out.b _ _ rfl) rfl rfl (fun j u hu=>HRL.out _ HKR.out.held.low j u hu) (by simp [lockL]) (by simp [lockL,sv,Value.oneCell']) (by omega) (HKR.out.held.two) ?_;intro A7 c7 w7 ho7 hg7 hv7;simp only [Nat.zero_add,List.nil_append] at ho7 hv7
      replace HKR:=Lib.hid (HKR.out.appb ho7 hg7 hv7)
      clear ho7 hg7 hv7;refine hk_ hK (HKR.out.held) fun hHeld=>?_;clear hK K;first | refine hs_ 8 ?_ | (refine hr_ 8 ?_ ?_ ?_;rotate_left;(intro W hW;obtain ⟨q0,q1,q2⟩:=hW.p;go_simp;try with_reducible rfl))
      refine hand_one (i:=10) rfl (by kernel_rfl) (fun K hK=>?_);obtain ⟨kq,_⟩:=HKR.out.k _ rfl;obtain ⟨kr,kf⟩:=row_facts kq;have t0:=kr 0 _ rfl;have t1:=kr 1 _ rfl;have t2:=kr 2 _ rfl;have t3:=kr 3 _ rfl;have t4:=kr 4 _ rfl;have f0:=kf 0;have f1:=kf 1;have f2:=kf 2;have f3:=kf 3;have f4:=kf 4;clear kq kr kf;refine q_yes (by kernel_rfl) ?_;go_simp
      skip
      refine hk_ hK (by first | exact HKR.out.done.held | exact HKP.out.done2.held) fun hHeld=>?_;clear hK K;refine wpAnyH_done (by kernel_rfl) ?_ _;clear t0 t1 t2 t3 t4 f0 f1 f2 f3 f4;go_wp2_with fail
      go_meet
      exact ⟨_,_,_,_,_,rfl,by first | exact HKR.out.done | exact HKP.out.done2⟩
    ·
     refine q_yes (by kernel_rfl) ?_;go_simp
     have HKP:=HKR
     replace HKR:=Lib.hid HKR.out.box
     try simp only [World.size_alloc,World.size_drew] at HKR
     refine hk_ hK (HKR.out.held) fun hHeld=>?_;clear hK K;refine ho_ 3 fun K hK=>?_;refine append_rd_op Try.underlying41 info_str rfl (by omega) (by omega) (.tmp 11) (.tmp 13) rfl (globL.map sv) (HKR.out.a _ _ rfl) rfl rfl (fun j u hu=>HRG.out _ HKR.out.held.low j u hu) (by simp [globL]) (by simp [globL,sv,Value.oneCell']) (by omega) (HKR.out.held.two) ?_;intro A3 c3 w3 ho3 hg3 hv3;simp only [Nat.zero_add,List.nil_append] at ho3 hv3
     replace HKR:=Lib.hid (HKR.out.appa ho3 hg3 hv3)
     clear ho3 hg3 hv3;refine hk_ hK (HKR.out.held) fun hHeld=>?_;clear hK K;refine ho_ 7 fun K hK=>?_;refine append_rd_op Try.underlying41 info_str rfl (by omega) (by omega) (.tmp 15) (.tmp 17) rfl (lockL.map sv) (HKR.out.b _ _ rfl) rfl rfl (fun j u hu=>HRL.out _ HKR.out.held.low j u hu) (by simp [lockL]) (by simp [lockL,sv,Value.oneCell']) (by omega) (HKR.out.held.two) ?_;intro A7 c7 w7 ho7 hg7 hv7;simp only [Nat.zero_add,List.nil_append] at ho7 hv7
     replace HKR:=Lib.hid (HKR.out.appb ho7 hg7 hv7)
     clear ho7 hg7 hv7;refine hk_ hK (HKR.out.held) fun hHeld=>?_;clear hK K;first | refine hs_ 8 ?_ | (refine hr_ 8 ?_ ?_ ?_;rotate_left;(intro W hW;obtain ⟨q0,q1,q2⟩:=hW.p;go_simp;try with_reducible rfl))
     refine hand_one (i:=10) rfl (by kernel_rfl) (fun K hK=>?_);obtain ⟨kq,_⟩:=HKR.out.k _ rfl;obtain ⟨kr,kf⟩:=row_facts kq;have t0:=kr 0 _ rfl;have t1:=kr 1 _ rfl;have t2:=kr 2 _ rfl;have t3:=kr 3 _ rfl;have t4:=kr 4 _ rfl;have f0:=kf 0;have f1:=kf 1;have f2:=kf 2;have f3:=kf 3;have f4:=kf 4;clear kq kr kf;refine q_yes (by kernel_rfl) ?_;go_simp
     skip
     refine hk_ hK (by first | exact HKR.out.done.held | exact HKP.out.done2.held) fun hHeld=>?_;clear hK K;refine wpAnyH_done (by kernel_rfl) ?_ _;clear t0 t1 t2 t3 t4 f0 f1 f2 f3 f4;go_wp2_with fail
     go_meet
     exact ⟨_,_,_,_,_,rfl,by first | exact HKR.out.done | exact HKP.out.done2⟩
   ·
    refine q_yes (by kernel_rfl) ?_;go_simp
    have HKP:=HKR
    replace HKR:=Lib.hid HKR.out.box
    try simp only [World.size_alloc,World.size_drew] at HKR
    refine hk_ hK (HKR.out.held) fun hHeld=>?_;clear hK K;refine ho_ 0 fun K hK=>?_;go_simp
    replace HKR:=Lib.hid HKR.out.lita
    try simp only [World.size_alloc,World.size_drew] at HKR
    refine hk_ hK (HKR.out.held) fun hHeld=>?_;clear hK K;refine ho_ 3 fun K hK=>?_;refine append_rd_op Try.underlying41 info_str rfl (by omega) (by omega) (.tmp 11) (.tmp 13) rfl (globL.map sv) (HKR.out.a _ _ rfl) rfl rfl (fun j u hu=>HRG.out _ HKR.out.held.low j u hu) (by simp [globL]) (by simp [globL,sv,Value.oneCell']) (by omega) (HKR.out.held.two) ?_;intro A3 c3 w3 ho3 hg3 hv3;simp only [Nat.zero_add,List.nil_append] at ho3 hv3
    replace HKR:=Lib.hid (HKR.out.appa ho3 hg3 hv3)
    clear ho3 hg3 hv3;refine hk_ hK (HKR.out.held) fun hHeld=>?_;clear hK K;refine ho_ 7 fun K hK=>?_;refine append_rd_op Try.underlying41 info_str rfl (by omega) (by omega) (.tmp 15) (.tmp 17) rfl (lockL.map sv) (HKR.out.b _ _ rfl) rfl rfl (fun j u hu=>HRL.out _ HKR.out.held.low j u hu) (by simp [lockL]) (by simp [lockL,sv,Value.oneCell']) (by omega) (HKR.out.held.two) ?_;intro A7 c7 w7 ho7 hg7 hv7;simp only [Nat.zero_add,List.nil_append] at ho7 hv7
    replace HKR:=Lib.hid (HKR.out.appb ho7 hg7 hv7)
    clear ho7 hg7 hv7;refine hk_ hK (HKR.out.held) fun hHeld=>?_;clear hK K;first | refine hs_ 8 ?_ | (refine hr_ 8 ?_ ?_ ?_;rotate_left;(intro W hW;obtain ⟨q0,q1,q2⟩:=hW.p;go_simp;try with_reducible rfl))
    refine hand_one (i:=10) rfl (by kernel_rfl) (fun K hK=>?_);obtain ⟨kq,_⟩:=HKR.out.k _ rfl;obtain ⟨kr,kf⟩:=row_facts kq;have t0:=kr 0 _ rfl;have t1:=kr 1 _ rfl;have t2:=kr 2 _ rfl;have t3:=kr 3 _ rfl;have t4:=kr 4 _ rfl;have f0:=kf 0;have f1:=kf 1;have f2:=kf 2;have f3:=kf 3;have f4:=kf 4;clear kq kr kf;refine q_yes (by kernel_rfl) ?_;go_simp
    skip
    refine hk_ hK (by first | exact HKR.out.done.held | exact HKP.out.done2.held) fun hHeld=>?_;clear hK K;refine wpAnyH_done (by kernel_rfl) ?_ _;clear t0 t1 t2 t3 t4 f0 f1 f2 f3 f4;go_wp2_with fail
    go_meet
    exact ⟨_,_,_,_,_,rfl,by first | exact HKR.out.done | exact HKP.out.done2⟩
  ·
   refine q_yes (by kernel_rfl) ?_;go_simp
   have HKP:=HKR
   replace HKR:=Lib.hid HKR.out.box
   try simp only [World.size_alloc,World.size_drew] at HKR
   refine hk_ hK (HKR.out.held) fun hHeld=>?_;clear hK K;refine hand_two (i:=0) (j:=4) rfl rfl (by kernel_rfl) (fun K hK=>?_) (fun K hK=>?_) 
   ·
    refine q_yes (by kernel_rfl) ?_;go_simp
    replace HKR:=Lib.hid HKR.out.lita
    try simp only [World.size_alloc,World.size_drew] at HKR
    refine hk_ hK (HKR.out.held) fun hHeld=>?_;clear hK K;refine hand_two (i:=3) (j:=4) rfl rfl (by kernel_rfl) (fun K hK=>?_) (fun K hK=>?_) 
    ·
     refine q_yes (by kernel_rfl) ?_;refine append_rd_op Try.underlying41 info_str rfl (by omega) (by omega) (.tmp 11) (.tmp 13) rfl (globL.map sv) (HKR.out.a _ _ rfl) rfl rfl (fun j u hu=>HRG.out _ HKR.out.held.low j u hu) (by simp [globL]) (by simp [globL,sv,Value.oneCell']) (by omega) (HKR.out.held.two) ?_;intro A3 c3 w3 ho3 hg3 hv3;simp only [Nat.zero_add,List.nil_append] at ho3 hv3
     replace HKR:=Lib.hid (HKR.out.appa ho3 hg3 hv3)
     clear ho3 hg3 hv3;refine hk_ hK (HKR.out.held) fun hHeld=>?_;clear hK K;refine ho_ 4 fun K hK=>?_;go_simp
     replace HKR:=Lib.hid HKR.out.litb
     try simp only [World.size_alloc,World.size_drew] at HKR
     refine hk_ hK (HKR.out.held) fun hHeld=>?_;clear hK K;refine ho_ 7 fun K hK=>?_;refine append_rd_op Try.underlying41 info_str rfl (by omega) (by omega) (.tmp 15) (.tmp 17) rfl (lockL.map sv) (HKR.out.b _ _ rfl) rfl rfl (fun j u hu=>HRL.out _ HKR.out.held.low j u hu) (by simp [lockL]) (by simp [lockL,sv,Value.oneCell']) (by omega) (HKR.out.held.two) ?_;intro A7 c7 w7 ho7 hg7 hv7;simp only [Nat.zero_add,List.nil_append] at ho7 hv7
     replace HKR:=Lib.hid (HKR.out.appb ho7 hg7 hv7)
     clear ho7 hg7 hv7;refine hk_ hK (HKR.out.held) fun hHeld=>?_;clear hK K;first | refine hs_ 8 ?_ | (refine hr_ 8 ?_ ?_ ?_;rotate_left;(intro W hW;obtain ⟨q0,q1,q2⟩:=hW.p;go_simp;try with_reducible rfl))
     refine hand_one (i:=10) rfl (by kernel_rfl) (fun K hK=>?_);obtain ⟨kq,_⟩:=HKR.out.k _ rfl;obtain ⟨kr,kf⟩:=row_facts kq;have t0:=kr 0 _ rfl;have t1:=kr 1 _ rfl;have t2:=kr 2 _ rfl;have t3:=kr 3 _ rfl;have t4:=kr 4 _ rfl;have f0:=kf 0;have f1:=kf 1;have f2:=kf 2;have f3:=kf 3;have f4:=kf 4;clear kq kr kf;refine q_yes (by kernel_rfl) ?_;go_simp
     skip
     refine hk_ hK (by first | exact HKR.out.done.held | exact HKP.out.done2.held) fun hHeld=>?_;clear hK K;refine wpAnyH_done (by kernel_rfl) ?_ _;clear t0 t1 t2 t3 t4 f0 f1 f2 f3 f4;go_wp2_with fail
     go_meet
     exact ⟨_,_,_,_,_,rfl,by first | exact HKR.out.done | exact HKP.out.done2⟩
    ·
     refine q_yes (by kernel_rfl) ?_;go_simp
     replace HKR:=Lib.hid HKR.out.litb
     try simp only [World.size_alloc,World.size_drew] at HKR
     refine hk_ hK (HKR.out.held) fun hHeld=>?_;clear hK K;refine ho_ 3 fun K hK=>?_;refine append_rd_op Try.underlying41 info_str rfl (by omega) (by omega) (.tmp 11) (.tmp 13) rfl (globL.map sv) (HKR.out.a _ _ rfl) rfl rfl (fun j u hu=>HRG.out _ HKR.out.held.low j u hu) (by simp [globL]) (by simp [globL,sv,Value.oneCell']) (by omega) (HKR.out.held.two) ?_;intro A3 c3 w3 ho3 hg3 hv3;simp only [Nat.zero_add,List.nil_append] at ho3 hv3
     replace HKR:=Lib.hid (HKR.out.appa ho3 hg3 hv3)
     clear ho3 hg3 hv3;refine hk_ hK (HKR.out.held) fun hHeld=>?_;clear hK K;refine ho_ 7 fun K hK=>?_;refine append_rd_op Try.underlying41 info_str rfl (by omega) (by omega) (.tmp 15) (.tmp 17) rfl (lockL.map sv) (HKR.out.b _ _ rfl) rfl rfl (fun j u hu=>HRL.out _ HKR.out.held.low j u hu) (by simp [lockL]) (by simp [lockL,sv,Value.oneCell']) (by omega) (HKR.out.held.two) ?_;intro A7 c7 w7 ho7 hg7 hv7;simp only [Nat.zero_add,List.nil_append] at ho7 hv7
     replace HKR:=Lib.hid (HKR.out.appb ho7 hg7 hv7)
     clear ho7 hg7 hv7;refine hk_ hK (HKR.out.held) fun hHeld=>?_;clear hK K;first | refine hs_ 8 ?_ | (refine hr_ 8 ?_ ?_ ?_;rotate_left;(intro W hW;obtain ⟨q0,q1,q2⟩:=hW.p;go_simp;try with_reducible rfl))
     refine hand_one (i:=10) rfl (by kernel_rfl) (fun K hK=>?_);obtain ⟨kq,_⟩:=HKR.out.k _ rfl;obtain ⟨kr,kf⟩:=row_facts kq;have t0:=kr 0 _ rfl;have t1:=kr 1 _ rfl;have t2:=kr 2 _ rfl;have t3:=kr 3 _ rfl;have t4:=kr 4 _ rfl;have f0:=kf 0;have f1:=kf 1;have f2:=kf 2;have f3:=kf 3;have f4:=kf 4;clear kq kr kf;refine q_yes (by kernel_rfl) ?_;go_simp
     skip
     refine hk_ hK (by first | exact HKR.out.done.held | exact HKP.out.done2.held) fun hHeld=>?_;clear hK K;refine wpAnyH_done (by kernel_rfl) ?_ _;clear t0 t1 t2 t3 t4 f0 f1 f2 f3 f4;go_wp2_with fail
     go_meet
     exact ⟨_,_,_,_,_,rfl,by first | exact HKR.out.done | exact HKP.out.done2⟩
   ·
    refine q_yes (by kernel_rfl) ?_;go_simp
    replace HKR:=Lib.hid HKR.out.litb
    try simp only [World.size_alloc,World.size_drew] at HKR
    refine hk_ hK (HKR.out.held) fun hHeld=>?_;clear hK K;refine ho_ 0 fun K hK=>?_;go_simp
    replace HKR:=Lib.hid HKR.out.lita
    try simp only [World.size_alloc,World.size_drew] at HKR
    refine hk_ hK (HKR.out.held) fun hHeld=>?_;clear hK K;refine ho_ 3 fun K hK=>?_;refine append_rd_op Try.underlying41 info_str rfl (by omega) (by omega) (.tmp 11) (.tmp 13) rfl (globL.map sv) (HKR.out.a _ _ rfl) rfl rfl (fun j u hu=>HRG.out _ HKR.out.held.low j u hu) (by simp [globL]) (by simp [globL,sv,Value.oneCell']) (by omega) (HKR.out.held.two) ?_;intro A3 c3 w3 ho3 hg3 hv3;simp only [Nat.zero_add,List.nil_append] at ho3 hv3
    replace HKR:=Lib.hid (HKR.out.appa ho3 hg3 hv3)
    clear ho3 hg3 hv3;refine hk_ hK (HKR.out.held) fun hHeld=>?_;clear hK K;refine ho_ 7 fun K hK=>?_;refine append_rd_op Try.underlying41 info_str rfl (by omega) (by omega) (.tmp 15) (.tmp 17) rfl (lockL.map sv) (HKR.out.b _ _ rfl) rfl rfl (fun j u hu=>HRL.out _ HKR.out.held.low j u hu) (by simp [lockL]) (by simp [lockL,sv,Value.oneCell']) (by omega) (HKR.out.held.two) ?_;intro A7 c7 w7 ho7 hg7 hv7;simp only [Nat.zero_add,List.nil_append] at ho7 hv7
    replace HKR:=Lib.hid (HKR.out.appb ho7 hg7 hv7)
    clear ho7 hg7 hv7;refine hk_ hK (HKR.out.held) fun hHeld=>?_;clear hK K;first | refine hs_ 8 ?_ | (refine hr_ 8 ?_ ?_ ?_;rotate_left;(intro W hW;obtain ⟨q0,q1,q2⟩:=hW.p;go_simp;try with_reducible rfl))
    refine hand_one (i:=10) rfl (by kernel_rfl) (fun K hK=>?_);obtain ⟨kq,_⟩:=HKR.out.k _ rfl;obtain ⟨kr,kf⟩:=row_facts kq;have t0:=kr 0 _ rfl;have t1:=kr 1 _ rfl;have t2:=kr 2 _ rfl;have t3:=kr 3 _ rfl;have t4:=kr 4 _ rfl;have f0:=kf 0;have f1:=kf 1;have f2:=kf 2;have f3:=kf 3;have f4:=kf 4;clear kq kr kf;refine q_yes (by kernel_rfl) ?_;go_simp
    skip
    refine hk_ hK (by first | exact HKR.out.done.held | exact HKP.out.done2.held) fun hHeld=>?_;clear hK K;refine wpAnyH_done (by kernel_rfl) ?_ _;clear t0 t1 t2 t3 t4 f0 f1 f2 f3 f4;go_wp2_with fail
    go_meet
    exact ⟨_,_,_,_,_,rfl,by first | exact HKR.out.done | exact HKP.out.done2⟩
 case rest =>
  obtain ⟨kb,gA',gc',lA',lc',rfl,hkn⟩:=hcut;have HKN:=Lib.hid hkn;clear hkn HK1 p0 p1 p2 HRG HRL;obtain ⟨p0,p1,p2⟩:=HKN.out.held.p;go_wp2_with fail
  have hco:=HKN.out.co (bs:=bs);generalize wc.heap.size = ge at hco ⊢;generalize wc.alloc (.cells #[.slice (some ga) 4 gc,.slice (some la) 3 lc,.slice pA nm.length pc,.slice none 0 0] 97) = W at hco ⊢;have HCO:=Lib.hid hco;clear hco p0 p1 p2 HKN;go_loopg [6] nm.length (fun l i wr=>∃ (j : Nat) (Ap : Option Addr) (cp : Nat) (Ae : Option Addr) (ce gr : Nat) (A : Option Addr) (c : Nat) (css : List (List Value)),j ≤ nm.length ∧ l = nm.length - j ∧ i = .int .i64 j ∧ CO w (some ga) (some la) pA gc lc pc nm bs kb ge gA' gc' lA' lc' j j (insD nm (bs.take j)) Ap cp Ae ce gr A c css wr)
  case atStart=>exact ⟨0,none,0,none,0,_,none,0,[],by omega,by omega,rfl,by simpa [insD] using HCO.out⟩
  case round =>
   clear HCO;obtain ⟨j,Ap,cp,Ae,ce,gr,A,c,css,hj,rfl,rfl,hC⟩:=hrel;have HC:=Lib.hid hC;clear hC;by_cases hlt : j < nm.length
   ·
    have y1 : (j : Int) < (nm.length : Int):=by omega
    have y2 : (0 : Int) ≤ (j : Int):=by omega
    have hlb : j < bs.length:=by rw [HL.out];exact hlt
    obtain ⟨ad,bv,m,n,rfl,q1,c0,c1,q4,q5,q6⟩:=(HP.out w (Below.refl _ _)).p j hlt hlb;obtain ⟨Av,cv,rfl⟩:=q6.form;have HST:=Lib.hid q6;have HC0:=Lib.hid (fun V (h : Below w.heap.size w V)=>(show V.cell? (ad.add (j * 2)) = some (.string nm[j]) from cell_low h c0));have HC1':=Lib.hid (fun V (h : Below w.heap.size w V)=>(show V.cell? (ad.add (j * 2 + 1)) = some (.slice Av bs[j].length cv) from cell_low h c1));obtain ⟨p0,p1,p2⟩:=HC.out.held.p;obtain ⟨f2,f3,f4,f5⟩:=HC.out.facts;have f2d : ∀ o : Obj,(wr.alloc o).cell? ⟨kb,2,none⟩ = some (.slice Ap j cp):=fun o=>cell_below (below_alloc0 _ _) f2;have hle : j < (entD nm bs).length:=by rw [entD_len];exact hlb
    have HEN:=Lib.hid (entD_get hle);have HIN:=Lib.hid (insD_take (ps:=nm) hlb);have HGJ:=Lib.hid (HG.out bs[j] (List.getElem_mem hlb));have hbl:=HBL.out j (by omega);unfold begD at hbl;clear q6 c0 c1;clear f3 f4 f5;go_upto_region 8 with fail
    go_cut [6] from 23 to 61 (fun i w'=>i = .int .i64 j ∧ ∃ Ap' cp',CO w (some ga) (some la) (some ad) gc lc pc nm bs kb ge gA' gc' lA' lc' (j + 1) j (insD nm (bs.take j)) Ap' cp' Ae ce gr A c css w')
    case first =>
     clear p0 p1 p2;refine wp_region_held_drew (S:=fun w'=>KHd w (some ga) (some la) (some ad) gc lc pc nm.length w') (by kernel_rfl) (HC.out.held.to (below_drew wr)) (fun hHeld=>?_);first | refine hs_ 0 ?_ | (refine hr_ 0 ?_ ?_ ?_;rotate_left;(intro W hW;obtain ⟨q0,q1,q2⟩:=hW.p;have qs:=HC0.out _ hW.low;go_simp;try with_reducible rfl))
     first | refine hs_ 2 ?_ | (refine hr_ 2 ?_ ?_ ?_;rotate_left;(intro W hW;obtain ⟨q0,q1,q2⟩:=hW.p;have qs:=HC0.out _ hW.low;go_simp;try with_reducible rfl))
     first | refine hs_ 3 ?_ | (refine hr_ 3 ?_ ?_ ?_;rotate_left;(intro W hW;obtain ⟨q0,q1,q2⟩:=hW.p;have qs:=HC0.out _ hW.low;go_simp;try with_reducible rfl))
     first | refine hs_ 4 ?_ | (refine hr_ 4 ?_ ?_ ?_;rotate_left;(intro W hW;obtain ⟨q0,q1,q2⟩:=hW.p;have qs:=HC0.out _ hW.low;go_simp;try with_reducible rfl))
     first | refine hs_ 5 ?_ | (refine hr_ 5 ?_ ?_ ?_;rotate_left;(intro W hW;obtain ⟨q0,q1,q2⟩:=hW.p;have qs:=HC0.out _ hW.low;go_simp;try with_reducible rfl))
     first | refine hs_ 6 ?_ | (refine hr_ 6 ?_ ?_ ?_;rotate_left;(intro W hW;obtain ⟨q0,q1,q2⟩:=hW.p;have qs:=HC0.out _ hW.low;go_simp;try with_reducible rfl))
     first | refine hs_ 7 ?_ | (refine hr_ 7 ?_ ?_ ?_;rotate_left;(intro W hW;obtain ⟨q0,q1,q2⟩:=hW.p;have qs:=HC0.out _ hW.low;go_simp;try with_reducible rfl))
     refine hand_two (i:=1) (j:=8) rfl rfl (by kernel_rfl) (fun K hK=>?_) (fun K hK=>?_) 
     ·
      refine q_yes (by kernel_rfl) ?_;go_simp
      skip
      refine hk_ hK (hHeld) fun hHeld=>?_;clear hK K;refine ho_ 8 fun K hK=>?_;go_simp
      skip
      refine hk_ hK (hHeld.to (below_alloc0 _ _)) fun hHeld=>?_;clear hK K;refine ho_ 9 fun K hK=>?_;refine append_cells_op Try.underlying41 info_str rfl (by omega) (by omega) (.tmp 31) (.tmp 38) rfl [.string nm[j]] (HC.out.to (below_drew wr)).po rfl rfl rfl (by simp [Value.oneCell']) (by omega) (HC.out.to (below_drew wr)).em.high ?_;intro A9 c9 w9 ho9 hg9 hv9;have hH9 : KHd w (some ga) (some la) (some ad) gc lc pc nm.length w9:=(HC.out.to (below_drew wr)).held.fr ((Fr.refl (fun b=>(Value.slice Ap j cp).ownBlock = some b) _).grown hg9 (fun b e _=>e)) (fun b e=>by have:=(HC.out.po.lt b e).1;have:=HC.out.lo;omega);have hC9:=(HC.out.to (below_drew wr)).proc hlt ho9 hg9 hv9;have f5' : w9.frozen? ⟨kb,2,none⟩ = false:=by
       have hlo9:=HC.out.lo;exact (row_facts (((((Fr.refl (fun b=>(Value.slice Ap j cp).ownBlock = some b) _).grown hg9 (fun b e _=>e)).block kb (Array.getElem?_eq_some_iff.1 (HC.out.to (below_drew wr)).k).1 (fun e=>by have:=(HC.out.po.lt _ e).1;omega)).trans (HC.out.to (below_drew wr)).k))).2 2
      have f2' : w9.cell? ⟨kb,2,none⟩ = some (.slice Ap j cp):=by
       have hlo9:=HC.out.lo;exact (row_facts (((((Fr.refl (fun b=>(Value.slice Ap j cp).ownBlock = some b) _).grown hg9 (fun b e _=>e)).block kb (Array.getElem?_eq_some_iff.1 (HC.out.to (below_drew wr)).k).1 (fun e=>by have:=(HC.out.po.lt _ e).1;omega)).trans (HC.out.to (below_drew wr)).k))).1 2 _ rfl
      have HC9:=Lib.hid hC9;clear hC9 ho9 hg9 hv9;refine hk_ hK (hH9) fun hHeld=>?_;clear hK K;first | refine hs_ 10 ?_ | (refine hr_ 10 ?_ ?_ ?_;rotate_left;(intro W hW;obtain ⟨q0,q1,q2⟩:=hW.p;have qs:=HC0.out _ hW.low;go_simp;try with_reducible rfl))
      refine ho_ 11 fun K hK=>?_;go_simp
      skip
      refine hk_ hK (HC9.out.held) fun hHeld=>?_;clear hK K;refine wpAnyH_done (by kernel_rfl) ?_ _;go_wp2_with fail
      go_meet
      exact ⟨rfl,A9,c9,HC9.out⟩
     ·
      refine q_yes (by kernel_rfl) ?_;go_simp
      skip
      refine hk_ hK (hHeld.to (below_alloc0 _ _)) fun hHeld=>?_;clear hK K;refine ho_ 1 fun K hK=>?_;go_simp
      skip
      refine hk_ hK (hHeld) fun hHeld=>?_;clear hK K;refine ho_ 9 fun K hK=>?_;refine append_cells_op Try.underlying41 info_str rfl (by omega) (by omega) (.tmp 31) (.tmp 38) rfl [.string nm[j]] (HC.out.to (below_drew wr)).po rfl rfl rfl (by simp [Value.oneCell']) (by omega) (HC.out.to (below_drew wr)).em.high ?_;intro A9 c9 w9 ho9 hg9 hv9;have hH9 : KHd w (some ga) (some la) (some ad) gc lc pc nm.length w9:=(HC.out.to (below_drew wr)).held.fr ((Fr.refl (fun b=>(Value.slice Ap j cp).ownBlock = some b) _).grown hg9 (fun b e _=>e)) (fun b e=>by have:=(HC.out.po.lt b e).1;have:=HC.out.lo;omega);have hC9:=(HC.out.to (below_drew wr)).proc hlt ho9 hg9 hv9;have f5' : w9.frozen? ⟨kb,2,none⟩ = false:=by
       have hlo9:=HC.out.lo;exact (row_facts (((((Fr.refl (fun b=>(Value.slice Ap j cp).ownBlock = some b) _).grown hg9 (fun b e _=>e)).block kb (Array.getElem?_eq_some_iff.1 (HC.out.to (below_drew wr)).k).1 (fun e=>by have:=(HC.out.po.lt _ e).1;omega)).trans (HC.out.to (below_drew wr)).k))).2 2
      have f2' : w9.cell? ⟨kb,2,none⟩ = some (.slice Ap j cp):=by
       have hlo9:=HC.out.lo;exact (row_facts (((((Fr.refl (fun b=>(Value.slice Ap j cp).ownBlock = some b) _).grown hg9 (fun b e _=>e)).block kb (Array.getElem?_eq_some_iff.1 (HC.out.to (below_drew wr)).k).1 (fun e=>by have:=(HC.out.po.lt _ e).1;omega)).trans (HC.out.to (below_drew wr)).k))).1 2 _ rfl
      have HC9:=Lib.hid hC9;clear hC9 ho9 hg9 hv9;refine hk_ hK (hH9) fun hHeld=>?_;clear hK K;first | refine hs_ 10 ?_ | (refine hr_ 10 ?_ ?_ ?_;rotate_left;(intro W hW;obtain ⟨q0,q1,q2⟩:=hW.p;have qs:=HC0.out _ hW.low;go_simp;try with_reducible rfl))
      refine ho_ 11 fun K hK=>?_;go_simp
      skip
      refine hk_ hK (HC9.out.held) fun hHeld=>?_;clear hK K;refine wpAnyH_done (by kernel_rfl) ?_ _;go_wp2_with fail
      go_meet
      exact ⟨rfl,A9,c9,HC9.out⟩
    case rest =>
     obtain ⟨rfl,Ap',cp',hC1⟩:=hcut;obtain ⟨w1,rfl⟩ : ∃ w1 : World,w1 = wc:=⟨_,rfl⟩
     have HC1:=Lib.hid hC1;clear hC1 f2 f2d p0 p1 p2 HC;obtain ⟨p0,p1,p2⟩:=HC1.out.held.p;obtain ⟨f2,f3,f4,f5⟩:=HC1.out.facts;have f3d : ∀ o : Obj,(w1.alloc o).cell? ⟨kb,3,none⟩ = some (.slice Ae j ce):=fun o=>cell_below (below_alloc0 _ _) f3;have f4d : ∀ o : Obj,(w1.alloc o).cell? ⟨ge,3,none⟩ = some (.slice A (insD nm (bs.take j)).length c):=fun o=>cell_below (below_alloc0 _ _) f4;clear f2 f5;go_upto_region 9 with fail
     go_cut [6] from 23 to 61 (fun i w'=>i = .int .i64 j ∧ ∃ Ae' ce',CO w (some ga) (some la) (some ad) gc lc pc nm bs kb ge gA' gc' lA' lc' (j + 1) (j + 1) (insD nm (bs.take j)) Ap' cp' Ae' ce' gr A c css w')
     case first =>
      clear p0 p1 p2;refine wp_region_held_drew (S:=fun w'=>KHd w (some ga) (some la) (some ad) gc lc pc nm.length w') (by kernel_rfl) (HC1.out.held.to (below_drew w1)) (fun hHeld=>?_);first | refine hs_ 0 ?_ | (refine hr_ 0 ?_ ?_ ?_;rotate_left;(intro W hW;obtain ⟨q0,q1,q2⟩:=hW.p;go_simp;try with_reducible rfl))
      first | refine hs_ 2 ?_ | (refine hr_ 2 ?_ ?_ ?_;rotate_left;(intro W hW;obtain ⟨q0,q1,q2⟩:=hW.p;go_simp;try with_reducible rfl))
      first | refine hs_ 3 ?_ | (refine hr_ 3 ?_ ?_ ?_;rotate_left;(intro W hW;obtain ⟨q0,q1,q2⟩:=hW.p;go_simp;try with_reducible rfl))
      first | refine hs_ 4 ?_ | (refine hr_ 4 ?_ ?_ ?_;rotate_left;(intro W hW;obtain ⟨q0,q1,q2⟩:=hW.p;go_simp;try with_reducible rfl))
      refine hand_two (i:=1) (j:=5) rfl rfl (by kernel_rfl) (fun K hK=>?_) (fun K hK=>?_) 
      ·
       refine q_yes (by kernel_rfl) ?_;go_simp
       skip
       refine hk_ hK (hHeld) fun hHeld=>?_;clear hK K;refine ho_ 5 fun K hK=>?_;go_simp
       skip
       refine hk_ hK (hHeld) fun hHeld=>?_;clear hK K;first | refine hs_ 6 ?_ | (refine hr_ 6 ?_ ?_ ?_;rotate_left;(intro W hW;obtain ⟨q0,q1,q2⟩:=hW.p;go_simp;try with_reducible rfl))
       refine ho_ 7 fun K hK=>?_;go_simp
       skip
       refine hk_ hK (hHeld.to (below_alloc0 _ _)) fun hHeld=>?_;clear hK K;refine ho_ 8 fun K hK=>?_;refine append_cells_op Try.underlying35 info_int rfl (by omega) (by omega) (.tmp 42) (.tmp 48) rfl [.int .i64 (((insD nm (bs.take j)).length : Nat) : Int)] (HC1.out.to (below_drew w1)).eo rfl rfl rfl (by simp [Value.oneCell']) (by omega) (HC1.out.to (below_drew w1)).em.high ?_;intro A9 c9 w9 ho9 hg9 hv9;rw [← HEN.out] at ho9;have hH9 : KHd w (some ga) (some la) (some ad) gc lc pc nm.length w9:=(HC1.out.to (below_drew w1)).held.fr ((Fr.refl (fun b=>(Value.slice Ae j ce).ownBlock = some b) _).grown hg9 (fun b e _=>e)) (fun b e=>by have:=(HC1.out.eo.lt b e).1;have:=HC1.out.lo;omega);have hC9:=(HC1.out.to (below_drew w1)).entry hle ho9 hg9 hv9;have f5' : w9.frozen? ⟨kb,3,none⟩ = false:=by
        have hlo9:=HC1.out.lo;exact (row_facts (((((Fr.refl (fun b=>(Value.slice Ae j ce).ownBlock = some b) _).grown hg9 (fun b e _=>e)).block kb (Array.getElem?_eq_some_iff.1 (HC1.out.to (below_drew w1)).k).1 (fun e=>by have:=(HC1.out.eo.lt _ e).1;omega)).trans (HC1.out.to (below_drew w1)).k))).2 3
       have f2' : w9.cell? ⟨kb,3,none⟩ = some (.slice Ae j ce):=by
        have hlo9:=HC1.out.lo;exact (row_facts (((((Fr.refl (fun b=>(Value.slice Ae j ce).ownBlock = some b) _).grown hg9 (fun b e _=>e)).block kb (Array.getElem?_eq_some_iff.1 (HC1.out.to (below_drew w1)).k).1 (fun e=>by have:=(HC1.out.eo.lt _ e).1;omega)).trans (HC1.out.to (below_drew w1)).k))).1 3 _ rfl
       have HC9:=Lib.hid hC9;clear hC9 ho9 hg9 hv9;refine hk_ hK (hH9) fun hHeld=>?_;clear hK K;first | refine hs_ 9 ?_ | (refine hr_ 9 ?_ ?_ ?_;rotate_left;(intro W hW;obtain ⟨q0,q1,q2⟩:=hW.p;go_simp;try with_reducible rfl))
       refine ho_ 10 fun K hK=>?_;go_simp
       skip
       refine hk_ hK (HC9.out.held) fun hHeld=>?_;clear hK K;refine wpAnyH_done (by kernel_rfl) ?_ _;go_wp2_with fail
       go_meet
       exact ⟨rfl,A9,c9,HC9.out⟩
      ·
       refine q_yes (by kernel_rfl) ?_;go_simp
       skip
       refine hk_ hK (hHeld) fun hHeld=>?_;clear hK K;first | refine hs_ 6 ?_ | (refine hr_ 6 ?_ ?_ ?_;rotate_left;(intro W hW;obtain ⟨q0,q1,q2⟩:=hW.p;go_simp;try with_reducible rfl))
       refine hand_two (i:=1) (j:=7) rfl rfl (by kernel_rfl) (fun K hK=>?_) (fun K hK=>?_) 
       ·
        refine q_yes (by kernel_rfl) ?_;go_simp
        skip
        refine hk_ hK (hHeld) fun hHeld=>?_;clear hK K;refine ho_ 7 fun K hK=>?_;go_simp
        skip
        refine hk_ hK (hHeld.to (below_alloc0 _ _)) fun hHeld=>?_;clear hK K;refine ho_ 8 fun K hK=>?_;refine append_cells_op Try.underlying35 info_int rfl (by omega) (by omega) (.tmp 42) (.tmp 48) rfl [.int .i64 (((insD nm (bs.take j)).length : Nat) : Int)] (HC1.out.to (below_drew w1)).eo rfl rfl rfl (by simp [Value.oneCell']) (by omega) (HC1.out.to (below_drew w1)).em.high ?_;intro A9 c9 w9 ho9 hg9 hv9;rw [← HEN.out] at ho9;have hH9 : KHd w (some ga) (some la) (some ad) gc lc pc nm.length w9:=(HC1.out.to (below_drew w1)).held.fr ((Fr.refl (fun b=>(Value.slice Ae j ce).ownBlock = some b) _).grown hg9 (fun b e _=>e)) (fun b e=>by have:=(HC1.out.eo.lt b e).1;have:=HC1.out.lo;omega);have hC9:=(HC1.out.to (below_drew w1)).entry hle ho9 hg9 hv9;have f5' : w9.frozen? ⟨kb,3,none⟩ = false:=by
         have hlo9:=HC1.out.lo;exact (row_facts (((((Fr.refl (fun b=>(Value.slice Ae j ce).ownBlock = some b) _).grown hg9 (fun b e _=>e)).block kb (Array.getElem?_eq_some_iff.1 (HC1.out.to (below_drew w1)).k).1 (fun e=>by have:=(HC1.out.eo.lt _ e).1;omega)).trans (HC1.out.to (below_drew w1)).k))).2 3
        have f2' : w9.cell? ⟨kb,3,none⟩ = some (.slice Ae j ce):=by
         have hlo9:=HC1.out.lo;exact (row_facts (((((Fr.refl (fun b=>(Value.slice Ae j ce).ownBlock = some b) _).grown hg9 (fun b e _=>e)).block kb (Array.getElem?_eq_some_iff.1 (HC1.out.to (below_drew w1)).k).1 (fun e=>by have:=(HC1.out.eo.lt _ e).1;omega)).trans (HC1.out.to (below_drew w1)).k))).1 3 _ rfl
        have HC9:=Lib.hid hC9;clear hC9 ho9 hg9 hv9;refine hk_ hK (hH9) fun hHeld=>?_;clear hK K;first | refine hs_ 9 ?_ | (refine hr_ 9 ?_ ?_ ?_;rotate_left;(intro W hW;obtain ⟨q0,q1,q2⟩:=hW.p;go_simp;try with_reducible rfl))
        refine ho_ 10 fun K hK=>?_;go_simp
        skip
        refine hk_ hK (HC9.out.held) fun hHeld=>?_;clear hK K;refine wpAnyH_done (by kernel_rfl) ?_ _;go_wp2_with fail
        go_meet
        exact ⟨rfl,A9,c9,HC9.out⟩
       ·
        refine q_yes (by kernel_rfl) ?_;go_simp
        skip
        refine hk_ hK (hHeld.to (below_alloc0 _ _)) fun hHeld=>?_;clear hK K;refine ho_ 1 fun K hK=>?_;go_simp
        skip
        refine hk_ hK (hHeld) fun hHeld=>?_;clear hK K;refine ho_ 8 fun K hK=>?_;refine append_cells_op Try.underlying35 info_int rfl (by omega) (by omega) (.tmp 42) (.tmp 48) rfl [.int .i64 (((insD nm (bs.take j)).length : Nat) : Int)] (HC1.out.to (below_drew w1)).eo rfl rfl rfl (by simp [Value.oneCell']) (by omega) (HC1.out.to (below_drew w1)).em.high ?_;intro A9 c9 w9 ho9 hg9 hv9;rw [← HEN.out] at ho9;have hH9 : KHd w (some ga) (some la) (some ad) gc lc pc nm.length w9:=(HC1.out.to (below_drew w1)).held.fr ((Fr.refl (fun b=>(Value.slice Ae j ce).ownBlock = some b) _).grown hg9 (fun b e _=>e)) (fun b e=>by have:=(HC1.out.eo.lt b e).1;have:=HC1.out.lo;omega);have hC9:=(HC1.out.to (below_drew w1)).entry hle ho9 hg9 hv9;have f5' : w9.frozen? ⟨kb,3,none⟩ = false:=by
         have hlo9:=HC1.out.lo;exact (row_facts (((((Fr.refl (fun b=>(Value.slice Ae j ce).ownBlock = some b) _).grown hg9 (fun b e _=>e)).block kb (Array.getElem?_eq_some_iff.1 (HC1.out.to (below_drew w1)).k).1 (fun e=>by have:=(HC1.out.eo.lt _ e).1;omega)).trans (HC1.out.to (below_drew w1)).k))).2 3
        have f2' : w9.cell? ⟨kb,3,none⟩ = some (.slice Ae j ce):=by
         have hlo9:=HC1.out.lo;exact (row_facts (((((Fr.refl (fun b=>(Value.slice Ae j ce).ownBlock = some b) _).grown hg9 (fun b e _=>e)).block kb (Array.getElem?_eq_some_iff.1 (HC1.out.to (below_drew w1)).k).1 (fun e=>by have:=(HC1.out.eo.lt _ e).1;omega)).trans (HC1.out.to (below_drew w1)).k))).1 3 _ rfl
        have HC9:=Lib.hid hC9;clear hC9 ho9 hg9 hv9;refine hk_ hK (hH9) fun hHeld=>?_;clear hK K;first | refine hs_ 9 ?_ | (refine hr_ 9 ?_ ?_ ?_;rotate_left;(intro W hW;obtain ⟨q0,q1,q2⟩:=hW.p;go_simp;try with_reducible rfl))
        refine ho_ 10 fun K hK=>?_;go_simp
        skip
        refine hk_ hK (HC9.out.held) fun hHeld=>?_;clear hK K;refine wpAnyH_done (by kernel_rfl) ?_ _;go_wp2_with fail
        go_meet
        exact ⟨rfl,A9,c9,HC9.out⟩
     case rest =>
      obtain ⟨rfl,Ae',ce',hC2⟩:=hcut;have HC2:=Lib.hid hC2;clear hC2 f3 f3d f4 f4d p0 p1 p2 HC1;obtain ⟨w2,rfl⟩ : ∃ w2 : World,w2 = wc:=⟨_,rfl⟩
      obtain ⟨p0,p1,p2⟩:=HC2.out.held.p;have hb1:=HC1'.out _ HC2.out.held.low;rw [add_pos_eq _ _ 1 (by omega)] at hb1;go_wp2_with fail
      refine (HSS.out _ bs[j] w2 ge (ge + 1) gr m n 2 _ (insD nm (bs.take j)) A c css HC2.out.held.low (by have:=HC2.out.lo;omega) HC2.out.em HGJ.out.1 HST.out q5 (by have:=HGJ.out.2;omega)).mono ?_;rintro e w3 ⟨rfl,hN⟩;obtain ⟨gr3,A3,c3,css3,hC3⟩:=HC2.out.emit hN;have HC3:=Lib.hid hC3;have hlen3 : (insD nm (bs.take j) ++ emitL nm (insD nm (bs.take j)).length bs[j]).length ≤ 100000:=by
       rw [List.length_append];have:=emitL_cnt nm bs[j] (insD nm (bs.take j)).length;have:=HGJ.out.2;omega
      clear hN hC3 HC2 p0 p1 p2 hb1;go_wp2_with fail
      refine (l08Put_any HC3.out.em hlen3 endI none 0 (kids_nil _ _ none)).mono ?_;rintro e w4 ⟨rfl,hN⟩;obtain ⟨gr4,A4,c4,css4,hC4⟩:=HC3.out.emit hN;rw [← HIN.out] at hC4;have HC4:=Lib.hid hC4;clear hN hC4 HC3;go_wp2_with fail
      go_roundg (nm.length - (j + 1))
      case measure=>omega
      case rel=>exact ⟨j + 1,Ap',cp',Ae',ce',gr4,A4,c4,css4,by omega,rfl,by go_num,HC4.out⟩
   ·
    obtain rfl : j = nm.length:=by omega
    have hbt : bs.take nm.length = bs:=List.take_of_length_le (by rw [HL.out];exact Nat.le_refl _);have hC:=HC.out;rw [hbt] at hC;obtain ⟨f2,f3,f4,f5⟩:=hC.facts;obtain ⟨k0,_⟩:=row_facts hC.k;have x0:=k0 0 _ rfl;have x1:=k0 1 _ rfl;have x2:=k0 2 _ rfl;have x3:=k0 3 _ rfl;have x4:=k0 4 _ rfl;obtain ⟨o0,o5⟩:=row_facts hC.held.out;have y0:=o0 0 _ rfl;have y1:=o0 1 _ rfl;have y2:=o0 2 _ rfl;have y3:=o0 3 _ rfl;have y4:=o0 4 _ rfl;have z0:=o5 0;have z1:=o5 1;have z2:=o5 2;have z3:=o5 3;have z4:=o5 4;have z5:=f5 4;have HLO:=Lib.hid hC.lo;have hne : w.heap.size + 1 ≠ kb:=by have:=HLO.out;omega
    have hne' : kb ≠ w.heap.size + 1:=by have:=HLO.out;omega
    obtain ⟨p0,p1,p2⟩:=hC.held.p;have HD:=Lib.hid (fun W' hW=>hC.done (W':=W') HL.out hW);clear k0 o0 o5 f5 f2 f3 hC HC hbt;go_wp2_with fail
    obtain ⟨h1,h2,h3⟩:=HD.out _ rfl;refine bodyPost_ret (results_row_tmp rfl _ _ _ _ _ _ _ rfl h1 Try.underlying45 rfl (by kernel_rfl)) rfl ?_;have he : nm.length = (cdOf nm bs).entry.length:=by simp [cdOf,entD,HL.out]
    exact ⟨⟨gA',lA',Ap,Ae,A,gc',lc',cp,ce,c⟩,congrArg (fun n=>Ending.returned (.tuple #[.agg #[.slice gA' 4 gc',.slice lA' 3 lc',.slice Ap nm.length cp,.slice Ae n ce,.slice A (insD nm bs).length c],.bool true])) he,h2,h3⟩
end Go.Proofs.Ytkgoajnnkimkaaa
