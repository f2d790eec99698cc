/- Code that grows, in memory; contract of the reference's l08Put. -/
import Derived.Test.YtkgoajnnkimkaaaH19
import Derived.StillTailTactics
set_option linter.unusedSimpArgs false
set_option linter.unusedVariables false
set_option maxRecDepth 100000
set_option maxHeartbeats 16000000
namespace Go.Proofs.Ytkgoajnnkimkaaa
open Go.ChangeShapes Go.WideShapes Go.ChangeAt Go.RowKit
structure PA where
 gA : Option Addr
 gc : Nat
 lA : Option Addr
 lc : Nat
 pA : Option Addr
 pn : Nat
 pc : Nat
 X : Nat → Prop
noncomputable def He (w : World) (base gr : Nat) (P : PA) : World:={ High w base with heap:=(High w base).heap.mapIdx fun b o=>open Classical in if b = gr ∨ P.X b then .cells #[] 0 (0,0) else o }
section
variable {w w' : World} {base lo gr gr' : Nat} {P : PA}
theorem he_some {a : Addr} {v : Value} : (He w base gr P).cell? a = some v ↔ ¬ (a.block = gr ∨ P.X a.block) ∧ (High w base).cell? a = some v:=by
 classical
 unfold He;generalize High w base = H;unfold World.cell?;simp only [Array.getElem?_mapIdx];cases h : H.heap[a.block]? with
 | none=>simp
 | some o =>
  by_cases hb : a.block = gr ∨ P.X a.block
  ·
   simp only [Option.map_some,hb,if_true];constructor
   · intro h1;split at h1 <;> simp at h1
   · intro h1;exact absurd trivial h1.1
  · simp only [Option.map_some,hb,if_false];exact ⟨fun h=>⟨fun q=>q,h⟩,fun h=>h.2⟩
theorem he_high : ∀ p u,(He w base gr P).cell? p = some u → (High w base).cell? p = some u:=fun p u h=>(he_some.1 h).2
theorem he_fr {S : Nat → Prop} {P' : PA} (hf : Fr S w w') (hS : ∀ b,base ≤ b → ¬ (b = gr ∨ P.X b) → b < w.heap.size → ¬ S b) (hg : ∀ b,b < w.heap.size → ¬ (b = gr ∨ P.X b) → ¬ (b = gr' ∨ P'.X b)) : ∀ p u,(He w base gr P).cell? p = some u → (He w' base gr' P').cell? p = some u:=fun p u h=>by
 obtain ⟨h1,h2⟩:=he_some.1 h;obtain ⟨h3,h4⟩:=high_block h2;exact he_some.2 ⟨hg _ h4 h1,high_some_keep (Nat.le_refl _) h2 (hf.block _ h4 (hS _ h3 h1 h4))⟩
theorem kids_he {B : Nat} {A : Option Addr} {ks : List Tm} (h : KidsAt (High w lo) B A ks) (hl : base ≤ lo) (hg : gr < lo) (hX : ∀ b,P.X b → b < lo) : KidsAt (He w base gr P) B A ks :=
 h.sub (Nat.le_refl _) fun p u h=>by
  obtain ⟨h3,h4⟩:=high_block h;exact he_some.2 ⟨fun e=>e.elim (fun e=>by omega) (fun e=>by have:=hX _ e;omega),high_some_keep hl h rfl⟩
end
def isC (x : Is) (Ak : Option Addr) (ck : Nat) : List Value:=[.int .i64 x.op,.int .i64 x.arg,.int .i64 x.term.kind,.int .i64 x.term.num,.string x.term.name,.slice Ak x.term.kids.length ck,.int .i64 x.to]
structure Em (W : World) (ge base gr : Nat) (P : PA) (xs : List Is) (A : Option Addr) (c : Nat) (css : List (List Value)) : Prop where
 box : W.heap[ge]? = some (.cells #[.slice P.gA 4 P.gc,.slice P.lA 3 P.lc,.slice P.pA P.pn P.pc,.slice A xs.length c] 97)
 own : W.ownsRow base 77 7 (.slice A xs.length c) xs.length css.flatten
 grb : ∀ b,(Value.slice A xs.length c).ownBlock = some b → b = gr
 grl : gr = ge ∨ (base ≤ gr ∧ gr < W.heap.size)
 low : ge < base
 high : base ≤ W.heap.size
 len : css.length = xs.length
 row : ∀ i (h : i < css.length) (h2 : i < xs.length),∃ Ak ck,css[i] = isC xs[i] Ak ck ∧ KidsAt (He W base gr P) W.heap.size Ak xs[i].term.kids
 xlt : ∀ b,P.X b → b < W.heap.size
 xgr : ¬ P.X gr ∧ ¬ P.X ge
section
variable {W W' w3 : World} {ge base gr : Nat} {P : PA} {xs : List Is} {A : Option Addr} {c : Nat} {css : List (List Value)}
theorem Em.fr {S : Nat → Prop} (h : Em W ge base gr P xs A c css) (hf : Fr S W W') (hS1 : ¬ S ge) (hS2 : ∀ b,(Value.slice A xs.length c).ownBlock = some b → ¬ S b) (hS : ∀ b,¬ (b = gr ∨ P.X b) → base ≤ b → b < W.heap.size → ¬ S b) : Em W' ge base gr P xs A c css:=by
 have hl:=h.low;have hh:=h.high;have hs:=hf.size;have hg:=h.grl;refine ⟨(hf.block _ (by omega) hS1).trans h.box,hf.own h.own hS2,h.grb,by omega,hl,by omega,h.len,fun i h1 h2=>?_,fun b hb=>Nat.lt_of_lt_of_le (h.xlt b hb) hs,h.xgr⟩;obtain ⟨Ak,ck,e,hk⟩:=h.row i h1 h2;exact ⟨Ak,ck,e,hk.sub hs (he_fr hf (fun b q1 q3 q2=>hS b q3 q1 q2) (fun b _ q=>q))⟩
theorem Em.to (h : Em W ge base gr P xs A c css) (hb : Below W.heap.size W W') : Em W' ge base gr P xs A c css:=h.fr (S:=fun _=>False) (Fr.of_below hb) (fun h=>h) (fun _ _ h=>h) (fun _ _ _ _ h=>h)
theorem Em.facts (h : Em W ge base gr P xs A c css) : (∀ j v,(#[.slice P.gA 4 P.gc,.slice P.lA 3 P.lc,.slice P.pA P.pn P.pc,.slice A xs.length c] : Array Value)[j]? = some v → W.cell? ⟨ge,j,none⟩ = some v) ∧ ∀ j,W.frozen? ⟨ge,j,none⟩ = false:=row_facts h.box
theorem Em.put (h : Em W ge base gr P xs A c css) {x : Is} {Ak : Option Addr} {ck : Nat} (hk : KidsAt (He W base gr P) W.heap.size Ak x.term.kids) {A' : Option Addr} {c' : Nat}
  (ho : w3.ownsRow base 77 7 (.slice A' (xs.length + 1) c') (xs.length + 1) (css.flatten ++ isC x Ak ck)) (hgr : W.grownBy w3 (Value.slice A xs.length c).ownBlock)
  (hv : (Value.slice A' (xs.length + 1) c').ownBlock = (Value.slice A xs.length c).ownBlock ∨ (Value.slice A' (xs.length + 1) c').ownBlock = some (W.heap.size + 1)) :
  ∃ gr',(gr' = gr ∨ W.heap.size ≤ gr') ∧ Em (w3.setCell ⟨ge,3,none⟩ (.slice A' (xs.length + 1) c')) ge base gr' P (xs ++ [x]) A' c' (css ++ [isC x Ak ck]) ∧ Fr (fun b=>b = ge ∨ b = gr) W (w3.setCell ⟨ge,3,none⟩ (.slice A' (xs.length + 1) c')):=by
 have hl:=h.low;have hh:=h.high;have hs:=hgr.size;obtain ⟨g',rfl,hg1,hg2⟩:=own_someH ho (by omega);have hob : ∀ b,(Value.slice A xs.length c).ownBlock = some b → base ≤ b:=fun b e=>(h.own.lt b e).1;have hF1 : Fr (fun b=>(Value.slice A xs.length c).ownBlock = some b) W w3:=(Fr.refl _ W).grown hgr (fun b e _=>e);have hF2 : Fr (fun b=>(Value.slice A xs.length c).ownBlock = some b ∨ b = ge) W (w3.setCell ⟨ge,3,none⟩ (.slice (some ⟨g',0,none⟩) (xs.length + 1) c')) :=
  (hF1.mono (fun b _ e=>.inl e)).set (a:=⟨ge,3,none⟩) (fun _=>.inr rfl) _
 have hsz : (w3.setCell ⟨ge,3,none⟩ (.slice (some ⟨g',0,none⟩) (xs.length + 1) c')).heap.size = w3.heap.size:=World.size_setCell ..;have hgg : g' = gr ∨ W.heap.size ≤ g':=hv.imp (fun e=>h.grb g' e.symm) (fun e=>by injection e with e;simp only at e;omega);have hst:=set_row ((hF1.block ge (by omega) (fun e=>by have:=hob _ e;omega)).trans h.box) 3 (.slice (some ⟨g',0,none⟩) (xs.length + 1) c');have hkeep : ∀ p u,(He W base gr P).cell? p = some u → (He (w3.setCell ⟨ge,3,none⟩ (.slice (some ⟨g',0,none⟩) (xs.length + 1) c')) base g' P).cell? p = some u :=
  he_fr hF2 (fun b q1 q2 q3 e=>e.elim (fun e=>q2 (.inl (h.grb b e))) (fun e=>by omega)) (fun b q1 q2 e=>q2 (e.elim (fun e=>by rcases hgg with q | q;exact .inl (by omega);omega) .inr))
 have el : (xs ++ [x]).length = xs.length + 1:=by simp
 refine ⟨g',hgg,⟨by rw [el];simpa using hst,?_,fun b e=>by injection e with e;exact e.symm,.inr ⟨by omega,by omega⟩,hl,by omega,by simp [h.len],fun i h1 h2=>?_,fun b hb=>by have:=h.xlt b hb;omega,fun e=>by rcases hgg with q | q;exact h.xgr.1 (by rw [← q];exact e);have:=h.xlt _ e;omega,h.xgr.2⟩,hF2.mono (fun b _ e=>e.elim (fun e=>.inr (h.grb b e)) .inl)⟩
 · have hf : Fr (fun b=>b = ge) w3 (w3.setCell ⟨ge,3,none⟩ (.slice (some ⟨g',0,none⟩) (xs.length + 1) c')):=Fr.set (S:=fun b=>b = ge) (Fr.refl _ w3) (a:=⟨ge,3,none⟩) (fun _=>rfl) _;rw [List.flatten_append,el];refine hf.own (by simpa using ho) (fun b e q=>?_);injection e with e;simp only at e;omega
 ·
  rcases Nat.lt_or_ge i css.length with hi | hi
  ·
   have h3 : i < xs.length:=by rw [← h.len];exact hi
   obtain ⟨Ai,ci,e,hki⟩:=h.row i hi h3;exact ⟨Ai,ci,by rw [List.getElem_append_left hi,List.getElem_append_left h3];exact e,by rw [List.getElem_append_left h3];exact hki.sub (by omega) hkeep⟩
  ·
   have hl:=h.len;obtain rfl : i = xs.length:=by simp only [List.length_append,List.length_cons,List.length_nil] at h1;omega
   refine ⟨Ak,ck,by rw [List.getElem_append_right hi];simp,?_⟩;simp only [List.getElem_append_right (Nat.le_refl _),Nat.sub_self,List.getElem_cons_zero];exact hk.sub (by omega) hkeep
end
theorem info_insH : (Try.prog.info? 77).map (fun i=>(i.zero,i.size,i.bytes)) = some (some (.agg #[.int .i64 0,.int .i64 0,.int .i64 0,.int .i64 0,.string ⟨#[]⟩,.slice none 0 0,.int .i64 0]),7,80):=by kernel_rfl
def EmNew (w : World) (ge base gr : Nat) (P : PA) (xs : List Is) (w' : World) : Prop:=∃ gr' A' c' css',(gr' = gr ∨ w.heap.size ≤ gr') ∧ Em w' ge base gr' P xs A' c' css' ∧ Fr (fun b=>b = ge ∨ b = gr) w w'
theorem l08Put_any {w : World} {ge base gr : Nat} {P : PA} {xs : List Is} {A : Option Addr} {c : Nat} {css : List (List Value)} (hE : Em w ge base gr P xs A c css) (hn : xs.length ≤ 100000) (x : Is) (Ak : Option Addr) (ck : Nat) (hk : KidsAt (He w base gr P) w.heap.size Ak x.term.kids) :
  Calls Try.prog 61 #[.pointer (some ⟨ge,0,none⟩),.agg #[.int .i64 x.op,.int .i64 x.arg,.int .i64 x.term.kind,.int .i64 x.term.num,.string x.term.name,.slice Ak x.term.kids.length ck,.int .i64 x.to]] w fun e w'=>e = .returned (.int .i64 xs.length) ∧ EmNew w ge base gr P (xs ++ [x]) w':=by
 have hb:=below_alloc0 w (.cells #[.int .i64 x.op,.int .i64 x.arg,.int .i64 x.term.kind,.int .i64 x.term.num,.string x.term.name,.slice Ak x.term.kids.length ck,.int .i64 x.to] 77);have hsz : (w.alloc (.cells #[.int .i64 x.op,.int .i64 x.arg,.int .i64 x.term.kind,.int .i64 x.term.num,.string x.term.name,.slice Ak x.term.kids.length ck,.int .i64 x.to] 77)).heap.size = w.heap.size + 1:=by simp
 obtain ⟨p,q⟩:=row_facts (heap_alloc_new w (.cells #[.int .i64 x.op,.int .i64 x.arg,.int .i64 x.term.kind,.int .i64 x.term.num,.string x.term.name,.slice Ak x.term.kids.length ck,.int .i64 x.to] 77));have x0:=p 0 _ rfl;have x1:=p 1 _ rfl;have x2:=p 2 _ rfl;have x3:=p 3 _ rfl;have x4:=p 4 _ rfl;have x5:=p 5 _ rfl;have x6:=p 6 _ rfl;have hE1:=hE.to hb;have hk1:=hk.sub hb.size (he_fr (P':=P) (Fr.of_below (S:=fun _=>False) hb) (fun _ _ _ _ h=>h) (fun _ _ h=>h));have c3:=hE1.facts.1 3 _ rfl;have f3:=hE1.facts.2 3;have HGE:=Lib.hid hE.low;have hbase : base ≤ w.heap.size:=hE.high;have hgrw : gr < w.heap.size:=by have:=hE.grl;have:=hE.low;omega
 have hxb:=heap_alloc_new w (.cells #[.int .i64 x.op,.int .i64 x.arg,.int .i64 x.term.kind,.int .i64 x.term.num,.string x.term.name,.slice Ak x.term.kids.length ck,.int .i64 x.to] 77);clear p q
 go_enter Try.func61, Try.ntmps61
 go_wp2_with fail
 generalize w.alloc (.cells #[.int .i64 x.op,.int .i64 x.arg,.int .i64 x.term.kind,.int .i64 x.term.num,.string x.term.name,.slice Ak x.term.kids.length ck,.int .i64 x.to] 77) = W at hb hsz x0 x1 x2 x3 x4 x5 x6 hE1 hk1 c3 f3 hxb ⊢;have c3' : ∀ o : Obj,(W.alloc o).cell? ⟨ge,3,none⟩ = some (.slice A xs.length c):=fun o=>cell_below (below_alloc0 _ _) c3;have HO:=Lib.hid (show W.drew.ownsRow base 77 7 (.slice A xs.length c) xs.length css.flatten from hE1.own);have HE1:=Lib.hid (hE1.to (below_drew W));have HK1:=Lib.hid (show KidsAt (He W.drew base gr P) W.drew.heap.size Ak x.term.kids from hk1.sub (Nat.le_refl _) (he_fr (P':=P) (Fr.of_below (S:=fun _=>False) (below_drew W)) (fun _ _ _ _ h=>h) (fun _ _ h=>h)));have HB:=Lib.hid (hb.drew);have HSZ:=Lib.hid hsz;have HS1:=Lib.hid (show w.heap.size < W.heap.size from by omega);have hsz2 : w.heap.size ≤ W.heap.size:=by omega
 have hgrw : gr < w.heap.size:=by have:=hE.grl;omega
 clear hE1 hk1 hb x0 x1 x2 x3 x4 x5 x6 hsz f3;refine wp_region_held_drew (S:=fun w'=>w'.heap[w.heap.size]? = some (.cells #[.int .i64 x.op,.int .i64 x.arg,.int .i64 x.term.kind,.int .i64 x.term.num,.string x.term.name,.slice Ak x.term.kids.length ck,.int .i64 x.to] 77)) (by kernel_rfl) (hxb) (fun hHeld=>?_);first | (refine hand_skip (i:=0) rfl (by kernel_rfl) (by kernel_rfl) (by kernel_rfl) (fun _ _ _ h=>h) (by rfl) (by assumption) ?_) | (refine hand_run (i:=0) (v:=?_) rfl (by kernel_rfl) (by kernel_rfl) (by kernel_rfl) (fun _ _ _ h=>h) (by rfl) ?_ (by assumption) ?_;rotate_left;(intro W hW;obtain ⟨xq,_⟩:=row_facts hW;have y0:=xq 0 _ rfl;have y1:=xq 1 _ rfl;have y2:=xq 2 _ rfl;have y3:=xq 3 _ rfl;have y4:=xq 4 _ rfl;have y5:=xq 5 _ rfl;have y6:=xq 6 _ rfl;first | (go_simp;done) | (go_simp;with_reducible rfl)))
 (try simp only [Act.put,List.setIfInBounds_toArray,List.set_cons_zero,List.set_cons_succ])
 first | (refine hand_skip (i:=1) rfl (by kernel_rfl) (by kernel_rfl) (by kernel_rfl) (fun _ _ _ h=>h) (by rfl) (by assumption) ?_) | (refine hand_run (i:=1) (v:=?_) rfl (by kernel_rfl) (by kernel_rfl) (by kernel_rfl) (fun _ _ _ h=>h) (by rfl) ?_ (by assumption) ?_;rotate_left;(intro W hW;obtain ⟨xq,_⟩:=row_facts hW;have y0:=xq 0 _ rfl;have y1:=xq 1 _ rfl;have y2:=xq 2 _ rfl;have y3:=xq 3 _ rfl;have y4:=xq 4 _ rfl;have y5:=xq 5 _ rfl;have y6:=xq 6 _ rfl;first | (go_simp;done) | (go_simp;with_reducible rfl)))
 (try simp only [Act.put,List.setIfInBounds_toArray,List.set_cons_zero,List.set_cons_succ])
 first | (refine hand_skip (i:=2) rfl (by kernel_rfl) (by kernel_rfl) (by kernel_rfl) (fun _ _ _ h=>h) (by rfl) (by assumption) ?_) | (refine hand_run (i:=2) (v:=?_) rfl (by kernel_rfl) (by kernel_rfl) (by kernel_rfl) (fun _ _ _ h=>h) (by rfl) ?_ (by assumption) ?_;rotate_left;(intro W hW;obtain ⟨xq,_⟩:=row_facts hW;have y0:=xq 0 _ rfl;have y1:=xq 1 _ rfl;have y2:=xq 2 _ rfl;have y3:=xq 3 _ rfl;have y4:=xq 4 _ rfl;have y5:=xq 5 _ rfl;have y6:=xq 6 _ rfl;first | (go_simp;done) | (go_simp;with_reducible rfl)))
 (try simp only [Act.put,List.setIfInBounds_toArray,List.set_cons_zero,List.set_cons_succ])
 first | (refine hand_skip (i:=3) rfl (by kernel_rfl) (by kernel_rfl) (by kernel_rfl) (fun _ _ _ h=>h) (by rfl) (by assumption) ?_) | (refine hand_run (i:=3) (v:=?_) rfl (by kernel_rfl) (by kernel_rfl) (by kernel_rfl) (fun _ _ _ h=>h) (by rfl) ?_ (by assumption) ?_;rotate_left;(intro W hW;obtain ⟨xq,_⟩:=row_facts hW;have y0:=xq 0 _ rfl;have y1:=xq 1 _ rfl;have y2:=xq 2 _ rfl;have y3:=xq 3 _ rfl;have y4:=xq 4 _ rfl;have y5:=xq 5 _ rfl;have y6:=xq 6 _ rfl;first | (go_simp;done) | (go_simp;with_reducible rfl)))
 (try simp only [Act.put,List.setIfInBounds_toArray,List.set_cons_zero,List.set_cons_succ])
 first | (refine hand_skip (i:=5) rfl (by kernel_rfl) (by kernel_rfl) (by kernel_rfl) (fun _ _ _ h=>h) (by rfl) (by assumption) ?_) | (refine hand_run (i:=5) (v:=?_) rfl (by kernel_rfl) (by kernel_rfl) (by kernel_rfl) (fun _ _ _ h=>h) (by rfl) ?_ (by assumption) ?_;rotate_left;(intro W hW;obtain ⟨xq,_⟩:=row_facts hW;have y0:=xq 0 _ rfl;have y1:=xq 1 _ rfl;have y2:=xq 2 _ rfl;have y3:=xq 3 _ rfl;have y4:=xq 4 _ rfl;have y5:=xq 5 _ rfl;have y6:=xq 6 _ rfl;first | (go_simp;done) | (go_simp;with_reducible rfl)))
 (try simp only [Act.put,List.setIfInBounds_toArray,List.set_cons_zero,List.set_cons_succ])
 refine hand_two (i:=4) (j:=6) rfl rfl (by kernel_rfl) (fun K hK=>?_) (fun K hK=>?_) 
 ·
  refine q_yes (by kernel_rfl) ?_;go_simp
  skip
  refine hK.out _ _ (hHeld) (fun hHeld=>?_);clear hK K
  (try simp only [Act.put,List.setIfInBounds_toArray,List.set_cons_zero,List.set_cons_succ])
  refine hand_one (i:=6) rfl (by kernel_rfl) (fun K hK=>?_);refine q_yes (by kernel_rfl) ?_;go_simp
  skip
  refine hK.out _ _ (((below_alloc0 W.drew _).block w.heap.size HS1.out).trans hHeld) (fun hHeld=>?_);clear hK K
  (try simp only [Act.put,List.setIfInBounds_toArray,List.set_cons_zero,List.set_cons_succ])
  refine hand_one (i:=7) rfl (by kernel_rfl) (fun K hK=>?_);refine q_yes (by kernel_rfl) ?_;refine append_cells_op Try.underlying43 info_insH rfl (by omega) (by omega) (.tmp 9) (.tmp 11) rfl [.int .i64 x.op,.int .i64 x.arg,.int .i64 x.term.kind,.int .i64 x.term.num,.string x.term.name,.slice Ak x.term.kids.length ck,.int .i64 x.to] HO.out rfl rfl rfl (by simp [Value.oneCell']) (by omega) (Nat.le_trans hbase hsz2) ?_;intro A6 c6 w6 ho6 hg6 hv6;have hF6 : Fr (fun b=>(Value.slice A xs.length c).ownBlock = some b) W.drew w6:=(Fr.refl _ W.drew).grown hg6 (fun b e _=>e);have hOW:=fun b e=>(HO.out.lt b e).1;have e2:=hF6.cell c3 (fun e=>by have:=hOW _ e;simp only at this;have:=HGE.out;omega);have e3 : w6.frozen? ⟨ge,3,none⟩ = false:=(row_facts ((hF6.block _ (show ge < W.heap.size from by have:=HGE.out;omega) (fun e=>by have:=hOW _ e;have:=HGE.out;omega)).trans HE1.out.box)).2 3;have hh6 : w6.heap[w.heap.size]? = some (.cells #[.int .i64 x.op,.int .i64 x.arg,.int .i64 x.term.kind,.int .i64 x.term.num,.string x.term.name,.slice Ak x.term.kids.length ck,.int .i64 x.to] 77):=(hF6.block _ HS1.out (fun e=>by have:=HE1.out.grb _ e;omega)).trans hxb;have HO6:=Lib.hid ho6;have HG6:=Lib.hid hg6;have HV6:=Lib.hid hv6;clear ho6 hg6 hv6 hF6 hOW;refine hK.out _ _ (hh6) (fun hHeld=>?_);clear hK K
  (try simp only [Act.put,List.setIfInBounds_toArray,List.set_cons_zero,List.set_cons_succ])
  first | (refine hand_skip (i:=8) rfl (by kernel_rfl) (by kernel_rfl) (by kernel_rfl) (fun _ _ _ h=>h) (by rfl) (by assumption) ?_) | (refine hand_run (i:=8) (v:=?_) rfl (by kernel_rfl) (by kernel_rfl) (by kernel_rfl) (fun _ _ _ h=>h) (by rfl) ?_ (by assumption) ?_;rotate_left;(intro W hW;obtain ⟨xq,_⟩:=row_facts hW;have y0:=xq 0 _ rfl;have y1:=xq 1 _ rfl;have y2:=xq 2 _ rfl;have y3:=xq 3 _ rfl;have y4:=xq 4 _ rfl;have y5:=xq 5 _ rfl;have y6:=xq 6 _ rfl;first | (go_simp;done) | (go_simp;with_reducible rfl)))
  (try simp only [Act.put,List.setIfInBounds_toArray,List.set_cons_zero,List.set_cons_succ])
  first | (refine hand_skip (i:=9) rfl (by kernel_rfl) (by kernel_rfl) (by kernel_rfl) (fun _ _ _ h=>h) (by rfl) (by assumption) ?_) | (refine hand_run (i:=9) (v:=?_) rfl (by kernel_rfl) (by kernel_rfl) (by kernel_rfl) (fun _ _ _ h=>h) (by rfl) ?_ (by assumption) ?_;rotate_left;(intro W hW;obtain ⟨xq,_⟩:=row_facts hW;have y0:=xq 0 _ rfl;have y1:=xq 1 _ rfl;have y2:=xq 2 _ rfl;have y3:=xq 3 _ rfl;have y4:=xq 4 _ rfl;have y5:=xq 5 _ rfl;have y6:=xq 6 _ rfl;first | (go_simp;done) | (go_simp;with_reducible rfl)))
  (try simp only [Act.put,List.setIfInBounds_toArray,List.set_cons_zero,List.set_cons_succ])
  refine hand_one (i:=10) rfl (by kernel_rfl) (fun K hK=>?_);refine q_yes (by kernel_rfl) ?_;go_simp
  skip
  refine hK.out _ _ ((Fr.set (S:=fun b=>b = ge) (Fr.refl _ w6) (a:=⟨ge,3,none⟩) (fun _=>rfl) _).block _ (Array.getElem?_eq_some_iff.1 hh6).1 (by have:=HGE.out;omega) |>.trans hh6) (fun hHeld=>?_);clear hK K
  (try simp only [Act.put,List.setIfInBounds_toArray,List.set_cons_zero,List.set_cons_succ])
  refine wpAnyH_done (by kernel_rfl) ?_ _;obtain ⟨gr',hgr',hEN,hFN⟩:=HE1.out.put HK1.out HO6.out HG6.out HV6.out;obtain ⟨n0,_⟩:=hEN.facts;have n3:=n0 3 _ rfl;simp only [List.length_append,List.length_cons,List.length_nil,Nat.zero_add] at n3;have HFI:=Lib.hid (show EmNew w ge base gr P (xs ++ [x]) _ from ⟨gr',A6,c6,_,hgr'.imp id (fun h=>Nat.le_trans hsz2 h),hEN,(Fr.of_below HB.out).trans hFN⟩);clear hEN hFN n0 hHeld e2 e3 hgr';go_wp2_with fail
  go_ret
  exact ⟨ret_int (by omega),HFI.out⟩
 ·
  refine q_yes (by kernel_rfl) ?_;go_simp
  skip
  refine hK.out _ _ (((below_alloc0 W.drew _).block w.heap.size HS1.out).trans hHeld) (fun hHeld=>?_);clear hK K
  (try simp only [Act.put,List.setIfInBounds_toArray,List.set_cons_zero,List.set_cons_succ])
  refine hand_one (i:=4) rfl (by kernel_rfl) (fun K hK=>?_);refine q_yes (by kernel_rfl) ?_;go_simp
  skip
  refine hK.out _ _ (hHeld) (fun hHeld=>?_);clear hK K
  (try simp only [Act.put,List.setIfInBounds_toArray,List.set_cons_zero,List.set_cons_succ])
  refine hand_one (i:=7) rfl (by kernel_rfl) (fun K hK=>?_);refine q_yes (by kernel_rfl) ?_;refine append_cells_op Try.underlying43 info_insH rfl (by omega) (by omega) (.tmp 9) (.tmp 11) rfl [.int .i64 x.op,.int .i64 x.arg,.int .i64 x.term.kind,.int .i64 x.term.num,.string x.term.name,.slice Ak x.term.kids.length ck,.int .i64 x.to] HO.out rfl rfl rfl (by simp [Value.oneCell']) (by omega) (Nat.le_trans hbase hsz2) ?_;intro A6 c6 w6 ho6 hg6 hv6;have hF6 : Fr (fun b=>(Value.slice A xs.length c).ownBlock = some b) W.drew w6:=(Fr.refl _ W.drew).grown hg6 (fun b e _=>e);have hOW:=fun b e=>(HO.out.lt b e).1;have e2:=hF6.cell c3 (fun e=>by have:=hOW _ e;simp only at this;have:=HGE.out;omega);have e3 : w6.frozen? ⟨ge,3,none⟩ = false:=(row_facts ((hF6.block _ (show ge < W.heap.size from by have:=HGE.out;omega) (fun e=>by have:=hOW _ e;have:=HGE.out;omega)).trans HE1.out.box)).2 3;have hh6 : w6.heap[w.heap.size]? = some (.cells #[.int .i64 x.op,.int .i64 x.arg,.int .i64 x.term.kind,.int .i64 x.term.num,.string x.term.name,.slice Ak x.term.kids.length ck,.int .i64 x.to] 77):=(hF6.block _ HS1.out (fun e=>by have:=HE1.out.grb _ e;omega)).trans hxb;have HO6:=Lib.hid ho6;have HG6:=Lib.hid hg6;have HV6:=Lib.hid hv6;clear ho6 hg6 hv6 hF6 hOW;refine hK.out _ _ (hh6) (fun hHeld=>?_);clear hK K
  (try simp only [Act.put,List.setIfInBounds_toArray,List.set_cons_zero,List.set_cons_succ])
  first | (refine hand_skip (i:=8) rfl (by kernel_rfl) (by kernel_rfl) (by kernel_rfl) (fun _ _ _ h=>h) (by rfl) (by assumption) ?_) | (refine hand_run (i:=8) (v:=?_) rfl (by kernel_rfl) (by kernel_rfl) (by kernel_rfl) (fun _ _ _ h=>h) (by rfl) ?_ (by assumption) ?_;rotate_left;(intro W hW;obtain ⟨xq,_⟩:=row_facts hW;have y0:=xq 0 _ rfl;have y1:=xq 1 _ rfl;have y2:=xq 2 _ rfl;have y3:=xq 3 _ rfl;have y4:=xq 4 _ rfl;have y5:=xq 5 _ rfl;have y6:=xq 6 _ rfl;first | (go_simp;done) | (go_simp;with_reducible rfl)))
  (try simp only [Act.put,List.setIfInBounds_toArray,List.set_cons_zero,List.set_cons_succ])
  first | (refine hand_skip (i:=9) rfl (by kernel_rfl) (by kernel_rfl) (by kernel_rfl) (fun _ _ _ h=>h) (by rfl) (by assumption) ?_) | (refine hand_run (i:=9) (v:=?_) rfl (by kernel_rfl) (by kernel_rfl) (by kernel_rfl) (fun _ _ _ h=>h) (by rfl) ?_ (by assumption) ?_;rotate_left;(intro W hW;obtain ⟨xq,_⟩:=row_facts hW;have y0:=xq 0 _ rfl;have y1:=xq 1 _ rfl;have y2:=xq 2 _ rfl;have y3:=xq 3 _ rfl;have y4:=xq 4 _ rfl;have y5:=xq 5 _ rfl;have y6:=xq 6 _ rfl;first | (go_simp;done) | (go_simp;with_reducible rfl)))
  (try simp only [Act.put,List.setIfInBounds_toArray,List.set_cons_zero,List.set_cons_succ])
  refine hand_one (i:=10) rfl (by kernel_rfl) (fun K hK=>?_);refine q_yes (by kernel_rfl) ?_;go_simp
  skip
  refine hK.out _ _ ((Fr.set (S:=fun b=>b = ge) (Fr.refl _ w6) (a:=⟨ge,3,none⟩) (fun _=>rfl) _).block _ (Array.getElem?_eq_some_iff.1 hh6).1 (by have:=HGE.out;omega) |>.trans hh6) (fun hHeld=>?_);clear hK K
  (try simp only [Act.put,List.setIfInBounds_toArray,List.set_cons_zero,List.set_cons_succ])
  refine wpAnyH_done (by kernel_rfl) ?_ _;obtain ⟨gr',hgr',hEN,hFN⟩:=HE1.out.put HK1.out HO6.out HG6.out HV6.out;obtain ⟨n0,_⟩:=hEN.facts;have n3:=n0 3 _ rfl;simp only [List.length_append,List.length_cons,List.length_nil,Nat.zero_add] at n3;have HFI:=Lib.hid (show EmNew w ge base gr P (xs ++ [x]) _ from ⟨gr',A6,c6,_,hgr'.imp id (fun h=>Nat.le_trans hsz2 h),hEN,(Fr.of_below HB.out).trans hFN⟩);clear hEN hFN n0 hHeld e2 e3 hgr';go_wp2_with fail
  go_ret
  exact ⟨ret_int (by omega),HFI.out⟩
end Go.Proofs.Ytkgoajnnkimkaaa
