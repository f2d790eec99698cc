/- Worlds with a row of one's own taken out; contract of the reference's l03Copy. -/
import Derived.Test.YtkgoajnnkimkaaaH17
set_option linter.unusedSimpArgs false
set_option linter.unusedVariables false
set_option maxRecDepth 100000
set_option maxHeartbeats 16000000
namespace Go.Proofs.Ytkgoajnnkimkaaa
open Go.ChangeShapes Go.WideShapes Go.ChangeAt Go.RowKit
def Hg (w : World) (lo g : Nat) : World:={ High w lo with heap:=(High w lo).heap.mapIdx fun b o=>if b = g then .cells #[] 0 (0,0) else o }
section
variable {w w' : World} {lo lo' g g' : Nat}
theorem hg_some {a : Addr} {v : Value} : (Hg w lo g).cell? a = some v ↔ a.block ≠ g ∧ (High w lo).cell? a = some v:=by
 unfold Hg;generalize High w lo = H;unfold World.cell?;simp only [Array.getElem?_mapIdx];cases h : H.heap[a.block]? with
 | none=>simp
 | some o =>
  by_cases hb : a.block = g
  ·
   simp only [Option.map_some,hb,if_true];constructor
   · intro h1;split at h1 <;> simp at h1
   · intro h1;exact absurd rfl h1.1
  · simp only [Option.map_some,hb,if_false];exact ⟨fun h=>⟨by simp [hb],h⟩,fun h=>h.2⟩
theorem hg_high : ∀ p u,(Hg w lo g).cell? p = some u → (High w lo).cell? p = some u:=fun p u h=>(hg_some.1 h).2
theorem high_some_keep {p : Addr} {u : Value} (hl : lo' ≤ lo) (h : (High w lo).cell? p = some u) (hk : w'.heap[p.block]? = w.heap[p.block]?) : (High w' lo').cell? p = some u:=by
 obtain ⟨h1,h2,c,t,h3⟩:=high_some.1 h;exact high_some.2 ⟨by omega,(World.cell?_of_block (w:=w) hk).trans h2,c,t,hk.trans h3⟩
theorem high_block {p : Addr} {u : Value} (h : (High w lo).cell? p = some u) : lo ≤ p.block ∧ p.block < w.heap.size:=by
 obtain ⟨h1,h2,c,t,h3⟩:=high_some.1 h;exact ⟨h1,(Array.getElem?_eq_some_iff.1 h3).1⟩
theorem hg_fr {S : Nat → Prop} (hl : lo' ≤ lo) (hf : Fr S w w') (hS : ∀ b,lo ≤ b → b ≠ g → b < w.heap.size → ¬ S b) (hg : g' = g ∨ w.heap.size ≤ g') : ∀ p u,(Hg w lo g).cell? p = some u → (Hg w' lo' g').cell? p = some u:=fun p u h=>by
 obtain ⟨h1,h2⟩:=hg_some.1 h;obtain ⟨h3,h4⟩:=high_block h2;exact hg_some.2 ⟨by omega,high_some_keep hl h2 (hf.block _ h4 (hS _ h3 h1 h4))⟩
theorem high_hg_fr {S : Nat → Prop} (hl : lo' ≤ lo) (hf : Fr S w w') (hS : ∀ b,lo ≤ b → b < w.heap.size → ¬ S b) (hg : g' < lo ∨ w.heap.size ≤ g') : ∀ p u,(High w lo).cell? p = some u → (Hg w' lo' g').cell? p = some u:=fun p u h=>by
 obtain ⟨h3,h4⟩:=high_block h;exact hg_some.2 ⟨by omega,high_some_keep hl h (hf.block _ h4 (hS _ h3 h4))⟩
end
theorem flat_get' {m : Nat} : ∀ (css : List (List Value)),(∀ cs ∈ css,cs.length = m) → ∀ (i j : Nat) (hi : i < css.length),j < m → css.flatten[i * m + j]? = css[i][j]?
 | [],h,i,j,hi,hj=>by simp at hi
 | c :: r,h,i,j,hi,hj=>by
  have hc:=h c (by simp);cases i with
  | zero =>
   rw [List.flatten_cons,List.getElem?_append_left (by omega)];simp
  | succ i =>
   rw [List.flatten_cons,Nat.succ_mul,List.getElem?_append_right (by omega)];have e : i * m + m + j - c.length = i * m + j:=by omega
   rw [e];exact flat_get' r (fun x hx=>h x (by simp [hx])) i j (by simpa using hi) hj
theorem below_drew (w : World) : Below w.heap.size w w.drew:=(Below.refl _ _).drew
structure TCopy (w : World) (t : Tm) (A : Option Addr) (c j : Nat) (Aj : Option Addr) (cj gr : Nat) (css : List (List Value)) (W : World) : Prop where
 bx : W.heap[w.heap.size]? = some (.cells #[.int .i64 t.kind,.int .i64 t.num,.string t.name,.slice A t.kids.length c] 75)
 rs : W.heap[w.heap.size + 1]? = some (.cells #[.int .i64 0,.int .i64 0,.string ⟨#[]⟩,.slice none 0 0] 75)
 out : W.heap[w.heap.size + 1 + 1]? = some (.cells #[.int .i64 t.kind,.int .i64 t.num,.string t.name,.slice Aj j cj] 75)
 own : W.ownsRow (w.heap.size + 3) 75 4 (.slice Aj j cj) j css.flatten
 grb : ∀ b,(Value.slice Aj j cj).ownBlock = some b → b = gr
 grl : gr < W.heap.size
 len : css.length = j
 kids : ∀ i (h : i < css.length) (h2 : i < t.kids.length),∃ Ak ck,css[i] = [.int .i64 t.kids[i].kind,.int .i64 t.kids[i].num,.string t.kids[i].name,.slice Ak t.kids[i].kids.length ck] ∧ KidsAt (Hg W (w.heap.size + 3) gr) W.heap.size Ak t.kids[i].kids
 below : Below w.heap.size w W
 big : w.heap.size + 3 ≤ W.heap.size
section
variable {w W W' w3 : World} {t : Tm} {A : Option Addr} {c j : Nat} {Aj : Option Addr} {cj gr : Nat} {css : List (List Value)}
theorem TCopy.d3 (h : TCopy w t A c j Aj cj gr css W) : W.cell? ⟨w.heap.size + 1 + 1,3,none⟩ = some (.slice Aj j cj):=(row_facts h.out).1 3 _ rfl
theorem TCopy.to (h : TCopy w t A c j Aj cj gr css W) (hb : Below W.heap.size W W') : TCopy w t A c j Aj cj gr css W':=by
 have hbig:=h.big;have hs:=hb.size;have hgr:=h.grl;refine ⟨(hb.block _ (by omega)).trans h.bx,(hb.block _ (by omega)).trans h.rs,(hb.block _ (by omega)).trans h.out,own_below h.own hb,h.grb,by omega,h.len,fun i h1 h2=>?_,below_trans' h.below hb,by omega⟩;obtain ⟨Ak,ck,e,hk⟩:=h.kids i h1 h2;exact ⟨Ak,ck,e,hk.sub hs (hg_fr (Nat.le_refl _) (Fr.of_below (S:=fun _=>False) hb) (fun _ _ _ _ h=>h) (.inl rfl))⟩
theorem TCopy.start (w : World) (t : Tm) (A : Option Addr) (c : Nat) : TCopy w t A c 0 none 0 w.heap.size [] (((w.alloc (.cells #[.int .i64 t.kind,.int .i64 t.num,.string t.name,.slice A t.kids.length c] 75)).alloc (.cells #[.int .i64 0,.int .i64 0,.string ⟨#[]⟩,.slice none 0 0] 75)).alloc (.cells #[.int .i64 t.kind,.int .i64 t.num,.string t.name,.slice none 0 0] 75)):=by
 generalize hO0 : Obj.cells #[.int .i64 t.kind,.int .i64 t.num,.string t.name,.slice A t.kids.length c] 75 = O0;generalize hO1 : Obj.cells #[.int .i64 0,.int .i64 0,.string ⟨#[]⟩,.slice none 0 0] 75 = O1;generalize hO2 : Obj.cells #[.int .i64 t.kind,.int .i64 t.num,.string t.name,.slice none 0 0] 75 = O2;have s1 : (w.alloc O0).heap.size = w.heap.size + 1:=by simp
 have s2 : ((w.alloc O0).alloc O1).heap.size = w.heap.size + 1 + 1:=by simp
 have s3 : (((w.alloc O0).alloc O1).alloc O2).heap.size = w.heap.size + 3:=by simp
 have b1:=below_alloc0 (w.alloc O0) O1;have b2:=below_alloc0 ((w.alloc O0).alloc O1) O2;have hF:=below_trans' (below_trans' (below_alloc0 w O0) b1) b2;have e0:=(b2.block _ (by omega)).trans ((b1.block _ (by omega)).trans (heap_alloc_new w O0));have e1:=heap_alloc_new (w.alloc O0) O1;rw [s1] at e1;have e1:=(b2.block _ (by omega)).trans e1;have e2:=heap_alloc_new ((w.alloc O0).alloc O1) O2;rw [s2] at e2;subst hO0 hO1 hO2;exact ⟨e0,e1,e2,World.ownsRow_nil _ _ _ _,fun b hb=>by simp [Value.ownBlock] at hb,by omega,rfl,fun i h=>by simp at h,hF,by omega⟩
theorem TCopy.more (h : TCopy w t A c j Aj cj gr css W) {Ak : Option Addr} {ck lo : Nat} (hj : j < t.kids.length) (hk : KidsAt (High W lo) W.heap.size Ak t.kids[j].kids) (hlo : gr < lo ∧ w.heap.size + 3 ≤ lo) {A' : Option Addr} {c' : Nat}
  (ho : w3.ownsRow (w.heap.size + 3) 75 4 (.slice A' (j + 1) c') (j + 1) (css.flatten ++ [.int .i64 t.kids[j].kind,.int .i64 t.kids[j].num,.string t.kids[j].name,.slice Ak t.kids[j].kids.length ck])) (hgr : W.grownBy w3 (Value.slice Aj j cj).ownBlock)
  (hv : (Value.slice A' (j + 1) c').ownBlock = (Value.slice Aj j cj).ownBlock ∨ (Value.slice A' (j + 1) c').ownBlock = some (W.heap.size + 1)) :
  ∃ gr',TCopy w t A c (j + 1) A' c' gr' (css ++ [[.int .i64 t.kids[j].kind,.int .i64 t.kids[j].num,.string t.kids[j].name,.slice Ak t.kids[j].kids.length ck]]) (w3.setCell ⟨w.heap.size + 1 + 1,3,none⟩ (.slice A' (j + 1) c')):=by
 have hbig:=h.big;have hs:=hgr.size;obtain ⟨g',rfl,hg1,hg2⟩:=own_someH ho (by omega);have hob : ∀ b,(Value.slice Aj j cj).ownBlock = some b → w.heap.size + 3 ≤ b:=fun b e=>(h.own.lt b e).1;have hF1 : Fr (fun b=>(Value.slice Aj j cj).ownBlock = some b) W w3:=(Fr.refl _ W).grown hgr (fun b e _=>e);have hF2 : Fr (fun b=>(Value.slice Aj j cj).ownBlock = some b ∨ b = w.heap.size + 1 + 1) W (w3.setCell ⟨w.heap.size + 1 + 1,3,none⟩ (.slice (some ⟨g',0,none⟩) (j + 1) c')) :=
  (hF1.mono (fun b _ e=>.inl e)).set (a:=⟨w.heap.size + 1 + 1,3,none⟩) (fun _=>.inr rfl) _
 have hsz : (w3.setCell ⟨w.heap.size + 1 + 1,3,none⟩ (.slice (some ⟨g',0,none⟩) (j + 1) c')).heap.size = w3.heap.size:=World.size_setCell ..;have hnS : ∀ b,b < w.heap.size + 3 → b ≠ w.heap.size + 1 + 1 → ¬ ((Value.slice Aj j cj).ownBlock = some b ∨ b = w.heap.size + 1 + 1):=fun b q1 q2 e=>e.elim (fun e=>by have:=hob _ e;omega) q2;have hgg : g' = gr ∨ W.heap.size ≤ g':=hv.imp (fun e=>h.grb g' e.symm) (fun e=>by injection e with e;simp only at e;omega);have hst:=set_row ((hF1.block (w.heap.size + 1 + 1) (by omega) (fun e=>by have:=hob _ e;omega)).trans h.out) 3 (.slice (some ⟨g',0,none⟩) (j + 1) c');have hkeep : ∀ p u,(Hg W (w.heap.size + 3) gr).cell? p = some u → (Hg (w3.setCell ⟨w.heap.size + 1 + 1,3,none⟩ (.slice (some ⟨g',0,none⟩) (j + 1) c')) (w.heap.size + 3) g').cell? p = some u :=
  hg_fr (Nat.le_refl _) hF2 (fun b q1 q2 q3 e=>e.elim (fun e=>q2 (h.grb b e)) (fun e=>by omega)) hgg
 refine ⟨g',(hF2.block _ (by omega) (hnS _ (by omega) (by omega))).trans h.bx,(hF2.block _ (by omega) (hnS _ (by omega) (by omega))).trans h.rs,by simpa using hst,?_,fun b e=>by injection e with e;exact e.symm,by omega,by simp [h.len],fun i h1 h2=>?_,?_,by omega⟩
 · have hf : Fr (fun b=>b = w.heap.size + 1 + 1) w3 (w3.setCell ⟨w.heap.size + 1 + 1,3,none⟩ (.slice (some ⟨g',0,none⟩) (j + 1) c')):=Fr.set (S:=fun b=>b = w.heap.size + 1 + 1) (Fr.refl _ w3) (a:=⟨w.heap.size + 1 + 1,3,none⟩) (fun _=>rfl) _;rw [List.flatten_append];refine hf.own (by simpa using ho) (fun b e q=>?_);injection e with e;simp only at e;omega
 ·
  rcases Nat.lt_or_ge i css.length with hi | hi
  · obtain ⟨Ai,ci,e,hki⟩:=h.kids i hi h2;exact ⟨Ai,ci,by rw [List.getElem_append_left hi];exact e,hki.sub (by omega) hkeep⟩
  ·
   have hl:=h.len;obtain rfl : i = j:=by simp only [List.length_append,List.length_cons,List.length_nil] at h1;omega
   refine ⟨Ak,ck,by rw [List.getElem_append_right hi];simp,hk.sub (by omega) (high_hg_fr hlo.2 hF2 (fun b q1 q2 e=>e.elim (fun e=>by have:=h.grb b e;omega) (fun e=>by omega)) ?_)⟩;omega
 · exact ⟨hF2.os.trans h.below.os,hF2.tape.trans h.below.tape,hF2.output.trans h.below.output,Nat.le_trans h.below.size hF2.size,fun b hb=>(hF2.block b (by omega) (hnS b (by omega) (by omega))).trans (h.below.block b hb)⟩
end
theorem TCopy.kidsAt {w W : World} {t : Tm} {A : Option Addr} {c : Nat} {Aj : Option Addr} {cj gr : Nat} {css : List (List Value)} (h : TCopy w t A c t.kids.length Aj cj gr css W) : KidsAt (High W (w.heap.size + 3)) W.heap.size Aj t.kids:=by
 have hl:=h.len;have h4 : ∀ cs ∈ css,cs.length = 4:=fun cs hc=>by
  obtain ⟨i,hi,rfl⟩:=List.getElem_of_mem hc;obtain ⟨Ak,ck,e,_⟩:=h.kids i hi (by omega);rw [e];rfl
 have hrd:=own_high h.own;refine ⟨fun i=>(css[i]?).getD [],fun i hi=>?_,fun i hi=>?_⟩
 ·
  have hc : i < css.length:=by omega
  have e : (css[i]?).getD [] = css[i]:=by simp [hc]
  simp only [e];intro m u hu;have hm : m < 4:=by rw [← h4 css[i] (List.getElem_mem hc)];exact (List.getElem?_eq_some_iff.1 hu).1
  exact hrd (i * 4 + m) u (by rw [flat_get' css h4 i m hc hm];exact hu)
 ·
  have hc : i < css.length:=by omega
  have e : (css[i]?).getD [] = css[i]:=by simp [hc]
  simp only [e];obtain ⟨Ak,ck,ek,hk⟩:=h.kids i hc hi;rw [ek];exact TmAt.make (hk.sub (Nat.le_refl _) hg_high)
def CopyNew (w : World) (t : Tm) (e : Ending) (w' : World) : Prop :=
 ∃ Ak ck,e = .returned (.agg #[.int .i64 t.kind,.int .i64 t.num,.string t.name,.slice Ak t.kids.length ck]) ∧ KidsAt (High w' w.heap.size) w'.heap.size Ak t.kids ∧ Below w.heap.size w w'
theorem l03Copy_of (t : Tm) (B : Nat) (A : Option Addr) (c : Nat) (w : World) (hk : KidsAt w B A t.kids) (hn : t.kids.length ≤ 1048576)
  (ih : ∀ i (h : i < t.kids.length) (B : Nat) (A : Option Addr) (c : Nat) (w : World),KidsAt w B A t.kids[i].kids → Calls Try.prog 84 #[.agg #[.int .i64 t.kids[i].kind,.int .i64 t.kids[i].num,.string t.kids[i].name,.slice A t.kids[i].kids.length c]] w (CopyNew w t.kids[i])) :
  Calls Try.prog 84 #[.agg #[.int .i64 t.kind,.int .i64 t.num,.string t.name,.slice A t.kids.length c]] w (CopyNew w t):=by
 have HI0:=Lib.hid ih;have HS:=Lib.hid (TCopy.start w t A c);have HK:=Lib.hid hk.full;have c0:=(row_facts HS.out.bx).1 0 _ rfl;have c1:=(row_facts HS.out.bx).1 1 _ rfl;have c2:=(row_facts HS.out.bx).1 2 _ rfl;clear ih hk
 go_enter Try.func84, Try.ntmps84
 go_wp2_with fail
 generalize (((w.alloc (.cells #[.int .i64 t.kind,.int .i64 t.num,.string t.name,.slice A t.kids.length c] 75)).alloc (.cells #[.int .i64 0,.int .i64 0,.string ⟨#[]⟩,.slice none 0 0] 75)).alloc (.cells #[.int .i64 t.kind,.int .i64 t.num,.string t.name,.slice none 0 0] 75)) = W at HS c0 c1 c2 ⊢;clear c0 c1 c2;go_loopg [4] t.kids.length (fun l i wr=>∃ (j : Nat) (Aj : Option Addr) (cj gr : Nat) (css : List (List Value)),j ≤ t.kids.length ∧ l = t.kids.length - j ∧ i = .int .i64 j ∧ TCopy w t A c j Aj cj gr css wr)
 case atStart=>exact ⟨0,none,0,w.heap.size,[],by omega,by omega,rfl,HS.out⟩
 case round =>
  clear HS;obtain ⟨j,Aj,cj,gr,css,hj,rfl,rfl,hC⟩:=hrel;have HC:=Lib.hid hC;have c3:=(row_facts hC.bx).1 3 _ rfl;have d0:=(row_facts hC.out).1 0 _ rfl;have d1:=(row_facts hC.out).1 1 _ rfl;have d2:=(row_facts hC.out).1 2 _ rfl;have d3:=hC.d3;clear hC;by_cases hlt : j < t.kids.length
  ·
   have y1 : (j : Int) < (t.kids.length : Int):=by omega
   have y2 : (0 : Int) ≤ (j : Int):=by omega
   have hKw:=HK.out.below HC.out.below;obtain ⟨ad,A',c',rfl,hkB,k0,k1,k2,k3,hkk⟩:=hKw.get hlt;have hkB0 : (ad.add (j * 4)).block < w.heap.size + 1:=by omega
   have hkB1 : (⟨(ad.add (j * 4)).block,(ad.add (j * 4)).off + 1,none⟩ : Addr).block < w.heap.size + 1:=hkB0;have hkB2 : (⟨(ad.add (j * 4)).block,(ad.add (j * 4)).off + 2,none⟩ : Addr).block < w.heap.size + 1:=hkB0;have hkB3 : (⟨(ad.add (j * 4)).block,(ad.add (j * 4)).off + 3,none⟩ : Addr).block < w.heap.size + 1:=hkB0;have HSZ:=Lib.hid (show gr < wr.heap.size ∧ w.heap.size + 3 ≤ wr.heap.size from ⟨HC.out.grl,HC.out.big⟩);have HI:=Lib.hid (fun V (hV : Below w.heap.size wr V)=>HI0.out j hlt w.heap.size A' c' V (hkk.below hV));clear hKw hkk;go_wp2_with fail
   refine wp_region_held_drew (S:=fun w'=>Below (w.heap.size + 1) wr w') (by kernel_rfl) ((Below.refl _ _).drew) (fun hHeld=>?_);first | refine hs_ 0 ?_ | (refine hr_ 0 ?_ ?_ ?_;rotate_left;(intro W hW;have ebx:=(hW.cell (p:=⟨w.heap.size,3,none⟩) (Nat.lt_succ_self _)).trans c3;have ek0:=(hW.cell hkB0).trans k0;have ek1:=(hW.cell (p:=⟨(ad.add (j * 4)).block,(ad.add (j * 4)).off + 1,none⟩) hkB1).trans k1;have ek2:=(hW.cell (p:=⟨(ad.add (j * 4)).block,(ad.add (j * 4)).off + 2,none⟩) hkB2).trans k2;have ek3:=(hW.cell (p:=⟨(ad.add (j * 4)).block,(ad.add (j * 4)).off + 3,none⟩) hkB3).trans k3;go_simp;try with_reducible rfl))
   first | refine hs_ 2 ?_ | (refine hr_ 2 ?_ ?_ ?_;rotate_left;(intro W hW;have ebx:=(hW.cell (p:=⟨w.heap.size,3,none⟩) (Nat.lt_succ_self _)).trans c3;have ek0:=(hW.cell hkB0).trans k0;have ek1:=(hW.cell (p:=⟨(ad.add (j * 4)).block,(ad.add (j * 4)).off + 1,none⟩) hkB1).trans k1;have ek2:=(hW.cell (p:=⟨(ad.add (j * 4)).block,(ad.add (j * 4)).off + 2,none⟩) hkB2).trans k2;have ek3:=(hW.cell (p:=⟨(ad.add (j * 4)).block,(ad.add (j * 4)).off + 3,none⟩) hkB3).trans k3;go_simp;try with_reducible rfl))
   first | refine hs_ 3 ?_ | (refine hr_ 3 ?_ ?_ ?_;rotate_left;(intro W hW;have ebx:=(hW.cell (p:=⟨w.heap.size,3,none⟩) (Nat.lt_succ_self _)).trans c3;have ek0:=(hW.cell hkB0).trans k0;have ek1:=(hW.cell (p:=⟨(ad.add (j * 4)).block,(ad.add (j * 4)).off + 1,none⟩) hkB1).trans k1;have ek2:=(hW.cell (p:=⟨(ad.add (j * 4)).block,(ad.add (j * 4)).off + 2,none⟩) hkB2).trans k2;have ek3:=(hW.cell (p:=⟨(ad.add (j * 4)).block,(ad.add (j * 4)).off + 3,none⟩) hkB3).trans k3;go_simp;try with_reducible rfl))
   first | refine hs_ 4 ?_ | (refine hr_ 4 ?_ ?_ ?_;rotate_left;(intro W hW;have ebx:=(hW.cell (p:=⟨w.heap.size,3,none⟩) (Nat.lt_succ_self _)).trans c3;have ek0:=(hW.cell hkB0).trans k0;have ek1:=(hW.cell (p:=⟨(ad.add (j * 4)).block,(ad.add (j * 4)).off + 1,none⟩) hkB1).trans k1;have ek2:=(hW.cell (p:=⟨(ad.add (j * 4)).block,(ad.add (j * 4)).off + 2,none⟩) hkB2).trans k2;have ek3:=(hW.cell (p:=⟨(ad.add (j * 4)).block,(ad.add (j * 4)).off + 3,none⟩) hkB3).trans k3;go_simp;try with_reducible rfl))
   first | refine hs_ 5 ?_ | (refine hr_ 5 ?_ ?_ ?_;rotate_left;(intro W hW;have ebx:=(hW.cell (p:=⟨w.heap.size,3,none⟩) (Nat.lt_succ_self _)).trans c3;have ek0:=(hW.cell hkB0).trans k0;have ek1:=(hW.cell (p:=⟨(ad.add (j * 4)).block,(ad.add (j * 4)).off + 1,none⟩) hkB1).trans k1;have ek2:=(hW.cell (p:=⟨(ad.add (j * 4)).block,(ad.add (j * 4)).off + 2,none⟩) hkB2).trans k2;have ek3:=(hW.cell (p:=⟨(ad.add (j * 4)).block,(ad.add (j * 4)).off + 3,none⟩) hkB3).trans k3;go_simp;try with_reducible rfl))
   first | refine hs_ 6 ?_ | (refine hr_ 6 ?_ ?_ ?_;rotate_left;(intro W hW;have ebx:=(hW.cell (p:=⟨w.heap.size,3,none⟩) (Nat.lt_succ_self _)).trans c3;have ek0:=(hW.cell hkB0).trans k0;have ek1:=(hW.cell (p:=⟨(ad.add (j * 4)).block,(ad.add (j * 4)).off + 1,none⟩) hkB1).trans k1;have ek2:=(hW.cell (p:=⟨(ad.add (j * 4)).block,(ad.add (j * 4)).off + 2,none⟩) hkB2).trans k2;have ek3:=(hW.cell (p:=⟨(ad.add (j * 4)).block,(ad.add (j * 4)).off + 3,none⟩) hkB3).trans k3;go_simp;try with_reducible rfl))
   refine hand_two (i:=1) (j:=7) rfl rfl (by kernel_rfl) (fun K hK=>?_) (fun K hK=>?_) 
   ·
    refine q_yes (by kernel_rfl) ?_;go_simp
    skip
    refine hk_ hK (hHeld) fun hHeld=>?_;clear hK K;refine ho_ 7 fun K hK=>?_;go_simp
    refine (HI.out _ (hHeld.mono (Nat.le_succ _))).mono ?_;rintro e w5 ⟨Ak,ck,rfl,hkn,hb5⟩;have hR5:=(HC.out.to (below_drew wr)).to hb5;have d3:=hR5.d3;have d4 : ∀ o : Obj,(w5.alloc o).cell? ⟨w.heap.size + 1 + 1,3,none⟩ = some (.slice Aj j cj):=fun o=>cell_below (below_alloc0 _ _) d3;have hh5:=hHeld.trans (hb5.mono (by have:=HC.out.big;simp;omega));have hbig5:=hR5.big;have HR5:=Lib.hid hR5;have HKN:=Lib.hid hkn;have HO5:=Lib.hid hR5.own;have HH5:=Lib.hid hh5;clear hR5 hkn hb5;refine hk_ hK (hh5) fun hHeld=>?_;clear hK K;refine ho_ 8 fun K hK=>?_;go_simp
    skip
    refine hk_ hK (hHeld.trans ((below_alloc0 _ _).mono (by omega))) fun hHeld=>?_;clear hK K;refine ho_ 9 fun K hK=>?_;refine append_cells_op Try.underlying73 info_term rfl (by omega) (by omega) (.tmp 20) (.tmp 27) rfl [.int .i64 t.kids[j].kind,.int .i64 t.kids[j].num,.string t.kids[j].name,.slice Ak t.kids[j].kids.length ck] HO5.out rfl rfl rfl (by simp [Value.oneCell']) (by omega) (by omega) ?_;intro A6 c6 w6 ho6 hg6 hv6;have hF6 : Fr (fun b=>(Value.slice Aj j cj).ownBlock = some b) w5 w6:=(Fr.refl _ w5).grown hg6 (fun b e _=>e);have hOW:=fun b e=>(HO5.out.lt b e).1;have e2:=hF6.cell d3 (fun e=>by have:=hOW _ e;simp only at this;omega);have e3 : w6.frozen? ⟨w.heap.size + 1 + 1,3,none⟩ = false:=(row_facts ((hF6.block _ (by omega) (fun e=>by have:=hOW _ e;omega)).trans HR5.out.out)).2 3;have hh6:=HH5.out.grown hg6 (by have:=HC.out.big;omega) (fun b e=>by have:=hOW b e;omega);have HO6:=Lib.hid ho6;have HG6:=Lib.hid hg6;have HV6:=Lib.hid hv6;clear ho6 hg6 hv6 hF6 hOW d4;refine hk_ hK (hh6) fun hHeld=>?_;clear hK K;first | refine hs_ 10 ?_ | (refine hr_ 10 ?_ ?_ ?_;rotate_left;(intro W hW;have ebx:=(hW.cell (p:=⟨w.heap.size,3,none⟩) (Nat.lt_succ_self _)).trans c3;have ek0:=(hW.cell hkB0).trans k0;have ek1:=(hW.cell (p:=⟨(ad.add (j * 4)).block,(ad.add (j * 4)).off + 1,none⟩) hkB1).trans k1;have ek2:=(hW.cell (p:=⟨(ad.add (j * 4)).block,(ad.add (j * 4)).off + 2,none⟩) hkB2).trans k2;have ek3:=(hW.cell (p:=⟨(ad.add (j * 4)).block,(ad.add (j * 4)).off + 3,none⟩) hkB3).trans k3;go_simp;try with_reducible rfl))
    refine ho_ 11 fun K hK=>?_;go_simp
    skip
    refine hk_ hK (hh6.setCell (by simp only;omega) _) fun hHeld=>?_;clear hK K;refine wpAnyH_done (by kernel_rfl) ?_ _;obtain ⟨gr',hC'⟩:=HR5.out.more hlt HKN.out HSZ.out HO6.out HG6.out HV6.out;have HCN:=Lib.hid hC';clear hC';go_wp2_with fail
    go_roundg (t.kids.length - (j + 1))
    case measure=>omega
    case rel=>exact ⟨j + 1,A6,c6,gr',_,by omega,rfl,by go_num,HCN.out⟩
   ·
    refine q_yes (by kernel_rfl) ?_;go_simp
    refine (HI.out _ (hHeld.mono (Nat.le_succ _))).mono ?_;rintro e w5 ⟨Ak,ck,rfl,hkn,hb5⟩;have hR5:=(HC.out.to (below_drew wr)).to hb5;have d3:=hR5.d3;have d4 : ∀ o : Obj,(w5.alloc o).cell? ⟨w.heap.size + 1 + 1,3,none⟩ = some (.slice Aj j cj):=fun o=>cell_below (below_alloc0 _ _) d3;have hh5:=hHeld.trans (hb5.mono (by have:=HC.out.big;simp;omega));have hbig5:=hR5.big;have HR5:=Lib.hid hR5;have HKN:=Lib.hid hkn;have HO5:=Lib.hid hR5.own;have HH5:=Lib.hid hh5;clear hR5 hkn hb5;refine hk_ hK (hh5) fun hHeld=>?_;clear hK K;refine hand_two (i:=1) (j:=8) rfl rfl (by kernel_rfl) (fun K hK=>?_) (fun K hK=>?_) 
    ·
     refine q_yes (by kernel_rfl) ?_;go_simp
     skip
     refine hk_ hK (hHeld) fun hHeld=>?_;clear hK K;refine ho_ 8 fun K hK=>?_;go_simp
     skip
     refine hk_ hK (hHeld.trans ((below_alloc0 _ _).mono (by omega))) fun hHeld=>?_;clear hK K;refine ho_ 9 fun K hK=>?_;refine append_cells_op Try.underlying73 info_term rfl (by omega) (by omega) (.tmp 20) (.tmp 27) rfl [.int .i64 t.kids[j].kind,.int .i64 t.kids[j].num,.string t.kids[j].name,.slice Ak t.kids[j].kids.length ck] HO5.out rfl rfl rfl (by simp [Value.oneCell']) (by omega) (by omega) ?_;intro A6 c6 w6 ho6 hg6 hv6;have hF6 : Fr (fun b=>(Value.slice Aj j cj).ownBlock = some b) w5 w6:=(Fr.refl _ w5).grown hg6 (fun b e _=>e);have hOW:=fun b e=>(HO5.out.lt b e).1;have e2:=hF6.cell d3 (fun e=>by have:=hOW _ e;simp only at this;omega);have e3 : w6.frozen? ⟨w.heap.size + 1 + 1,3,none⟩ = false:=(row_facts ((hF6.block _ (by omega) (fun e=>by have:=hOW _ e;omega)).trans HR5.out.out)).2 3;have hh6:=HH5.out.grown hg6 (by have:=HC.out.big;omega) (fun b e=>by have:=hOW b e;omega);have HO6:=Lib.hid ho6;have HG6:=Lib.hid hg6;have HV6:=Lib.hid hv6;clear ho6 hg6 hv6 hF6 hOW d4;refine hk_ hK (hh6) fun hHeld=>?_;clear hK K;first | refine hs_ 10 ?_ | (refine hr_ 10 ?_ ?_ ?_;rotate_left;(intro W hW;have ebx:=(hW.cell (p:=⟨w.heap.size,3,none⟩) (Nat.lt_succ_self _)).trans c3;have ek0:=(hW.cell hkB0).trans k0;have ek1:=(hW.cell (p:=⟨(ad.add (j * 4)).block,(ad.add (j * 4)).off + 1,none⟩) hkB1).trans k1;have ek2:=(hW.cell (p:=⟨(ad.add (j * 4)).block,(ad.add (j * 4)).off + 2,none⟩) hkB2).trans k2;have ek3:=(hW.cell (p:=⟨(ad.add (j * 4)).block,(ad.add (j * 4)).off + 3,none⟩) hkB3).trans k3;go_simp;try with_reducible rfl))
     refine ho_ 11 fun K hK=>?_;go_simp
     skip
     refine hk_ hK (hh6.setCell (by simp only;omega) _) fun hHeld=>?_;clear hK K;refine wpAnyH_done (by kernel_rfl) ?_ _;obtain ⟨gr',hC'⟩:=HR5.out.more hlt HKN.out HSZ.out HO6.out HG6.out HV6.out;have HCN:=Lib.hid hC';clear hC';go_wp2_with fail
     go_roundg (t.kids.length - (j + 1))
     case measure=>omega
     case rel=>exact ⟨j + 1,A6,c6,gr',_,by omega,rfl,by go_num,HCN.out⟩
    ·
     refine q_yes (by kernel_rfl) ?_;go_simp
     skip
     refine hk_ hK (hHeld.trans ((below_alloc0 _ _).mono (by omega))) fun hHeld=>?_;clear hK K;refine ho_ 1 fun K hK=>?_;go_simp
     skip
     refine hk_ hK (hHeld) fun hHeld=>?_;clear hK K;refine ho_ 9 fun K hK=>?_;refine append_cells_op Try.underlying73 info_term rfl (by omega) (by omega) (.tmp 20) (.tmp 27) rfl [.int .i64 t.kids[j].kind,.int .i64 t.kids[j].num,.string t.kids[j].name,.slice Ak t.kids[j].kids.length ck] HO5.out rfl rfl rfl (by simp [Value.oneCell']) (by omega) (by omega) ?_;intro A6 c6 w6 ho6 hg6 hv6;have hF6 : Fr (fun b=>(Value.slice Aj j cj).ownBlock = some b) w5 w6:=(Fr.refl _ w5).grown hg6 (fun b e _=>e);have hOW:=fun b e=>(HO5.out.lt b e).1;have e2:=hF6.cell d3 (fun e=>by have:=hOW _ e;simp only at this;omega);have e3 : w6.frozen? ⟨w.heap.size + 1 + 1,3,none⟩ = false:=(row_facts ((hF6.block _ (by omega) (fun e=>by have:=hOW _ e;omega)).trans HR5.out.out)).2 3;have hh6:=HH5.out.grown hg6 (by have:=HC.out.big;omega) (fun b e=>by have:=hOW b e;omega);have HO6:=Lib.hid ho6;have HG6:=Lib.hid hg6;have HV6:=Lib.hid hv6;clear ho6 hg6 hv6 hF6 hOW d4;refine hk_ hK (hh6) fun hHeld=>?_;clear hK K;first | refine hs_ 10 ?_ | (refine hr_ 10 ?_ ?_ ?_;rotate_left;(intro W hW;have ebx:=(hW.cell (p:=⟨w.heap.size,3,none⟩) (Nat.lt_succ_self _)).trans c3;have ek0:=(hW.cell hkB0).trans k0;have ek1:=(hW.cell (p:=⟨(ad.add (j * 4)).block,(ad.add (j * 4)).off + 1,none⟩) hkB1).trans k1;have ek2:=(hW.cell (p:=⟨(ad.add (j * 4)).block,(ad.add (j * 4)).off + 2,none⟩) hkB2).trans k2;have ek3:=(hW.cell (p:=⟨(ad.add (j * 4)).block,(ad.add (j * 4)).off + 3,none⟩) hkB3).trans k3;go_simp;try with_reducible rfl))
     refine ho_ 11 fun K hK=>?_;go_simp
     skip
     refine hk_ hK (hh6.setCell (by simp only;omega) _) fun hHeld=>?_;clear hK K;refine wpAnyH_done (by kernel_rfl) ?_ _;obtain ⟨gr',hC'⟩:=HR5.out.more hlt HKN.out HSZ.out HO6.out HG6.out HV6.out;have HCN:=Lib.hid hC';clear hC';go_wp2_with fail
     go_roundg (t.kids.length - (j + 1))
     case measure=>omega
     case rel=>exact ⟨j + 1,A6,c6,gr',_,by omega,rfl,by go_num,HCN.out⟩
  ·
   obtain rfl : j = t.kids.length:=by omega
   obtain ⟨q1,q2⟩:=row_facts HC.out.rs;have r0:=q1 0 _ rfl;have r1:=q1 1 _ rfl;have r2:=q1 2 _ rfl;have r3:=q1 3 _ rfl;have f0:=q2 0;have f1:=q2 1;have f2:=q2 2;have f3:=q2 3;clear q1 q2;go_wp2_with fail
   have hfin:=set_row (set_row (set_row (set_row HC.out.rs 0 (.int .i64 t.kind)) 1 (.int .i64 t.num)) 2 (.string t.name)) 3 (.slice Aj t.kids.length cj);refine bodyPost_ret (results_cell_row rfl _ _ _ _ _ _ _ rfl hfin Try.underlying75 rfl (by kernel_rfl)) rfl ?_;have hF:=set4_fr wr (w.heap.size + 1) (.int .i64 t.kind) (.int .i64 t.num) (.string t.name) (.slice Aj t.kids.length cj);have hbig:=HC.out.big;have hbl:=HC.out.below;refine ⟨Aj,cj,rfl,HC.out.kidsAt.sub hF.size (high_fr (by omega) hF (fun b q1 q2=>by omega)),?_⟩;exact ⟨hF.os.trans hbl.os,hF.tape.trans hbl.tape,hF.output.trans hbl.output,Nat.le_trans hbl.size hF.size,fun b hb=>(hF.block b (by have:=hbl.size;omega) (by omega)).trans (hbl.block b hb)⟩
theorem l03Copy_any (t : Tm) (hb : TmB 1048576 t) (B : Nat) (A : Option Addr) (c : Nat) (w : World) (hk : KidsAt w B A t.kids) : Calls Try.prog 84 #[.agg #[.int .i64 t.kind,.int .i64 t.num,.string t.name,.slice A t.kids.length c]] w (CopyNew w t):=by
 have : ∀ (n : Nat) (t : Tm),SizeOf.sizeOf t ≤ n → TmB 1048576 t → ∀ (B : Nat) (A : Option Addr) (c : Nat) (w : World),KidsAt w B A t.kids → Calls Try.prog 84 #[.agg #[.int .i64 t.kind,.int .i64 t.num,.string t.name,.slice A t.kids.length c]] w (CopyNew w t):=by
  intro n;induction n with
  | zero=>intro t h;cases t;simp at h
  | succ n ih =>
   intro t h hb B A c w hk;exact l03Copy_of t B A c w hk hb.fits.2.2.2 fun i hi B A c w hk=>ih _ (by have:=sizeOf_kid i hi;omega) (hb.kid i hi) B A c w hk
 exact this _ t (Nat.le_refl _) hb B A c w hk
end Go.Proofs.Ytkgoajnnkimkaaa
