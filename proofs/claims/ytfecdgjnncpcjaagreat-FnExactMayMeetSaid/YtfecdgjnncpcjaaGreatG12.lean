/- Contract of l14Table: which procedures are beside each other. -/
import Derived.Test.YtfecdgjnncpcjaaGreatD17
import Derived.Test.YtfecdgjnncpcjaaGreatE1
import Derived.Test.YtfecdgjnncpcjaaGreatQ3
set_option linter.unusedSimpArgs false
set_option linter.unusedVariables false
namespace Go.Proofs.YtfecdgjnncpcjaaGreat
open Go.ChangeShapes Go.WideShapes Go.ChangeAt Go.RowKit

/-- Roots r and s, not one single thread, come to a and b. -/
def Cnd (k : Cd) (a b r s : Nat) : Prop := RootP k r ∧ RootP k s ∧ FromP k r a ∧ FromP k s b ∧ (r ≠ s ∨ ¬ SingR k r)
def TabP (k : Cd) (a b : Nat) : Prop := ∃ r s, Cnd k a b r s
structure RowI (k : Cd) (a b r0 s0 : Nat) (ms : List Bool) : Prop where
  len : ms.length = k.procs.length
  iff_ : ∀ x, x < k.procs.length → (mkd ms x = true ↔ (x < b ∧ TabP k a x) ∨ (x = b ∧ ∃ r s, (r < r0 ∨ (r = r0 ∧ s < s0)) ∧ Cnd k a b r s))
section
variable {k : Cd} {a b r0 s0 : Nat} {ms : List Bool}
theorem RowI.start (k : Cd) (a : Nat) : RowI k a 0 0 0 (List.replicate k.procs.length false) := by
  refine ⟨by simp, fun x hx => ?_⟩
  rw [mkd_replicate]
  constructor
  · intro h; simp at h
  · rintro (⟨h, _⟩ | ⟨_, r, s, h, _⟩) <;> omega
theorem RowI.skip (h : RowI k a b r0 s0 ms) (hn : ¬ Cnd k a b r0 s0) : RowI k a b r0 (s0 + 1) ms := by
  refine ⟨h.len, fun x hx => (h.iff_ x hx).trans ⟨fun g => g.imp id fun ⟨e, r, s, g1, g2⟩ => ⟨e, r, s, g1.imp id fun g => ⟨g.1, by omega⟩, g2⟩, fun g => g.imp id fun ⟨e, r, s, g1, g2⟩ => ⟨e, r, s, ?_, g2⟩⟩⟩
  rcases g1 with g1 | ⟨g1, g3⟩
  · exact .inl g1
  · rcases Nat.lt_or_ge s s0 with g4 | g4
    · exact .inr ⟨g1, g4⟩
    · obtain rfl : s = s0 := by omega
      subst g1
      exact absurd g2 hn
theorem RowI.hit (h : RowI k a b r0 s0 ms) (hb : b < k.procs.length) (hc : Cnd k a b r0 s0) : RowI k a b r0 (s0 + 1) (ms.set b true) := by
  refine ⟨by simp [h.len], fun x hx => ?_⟩
  rw [mkd_set (by rw [h.len]; exact hb)]
  split
  · rename_i e
    subst e
    exact ⟨fun _ => .inr ⟨rfl, r0, s0, .inr ⟨rfl, by omega⟩, hc⟩, fun _ => rfl⟩
  · rename_i e
    refine (h.iff_ x hx).trans ⟨fun g => ?_, fun g => ?_⟩
    · rcases g with g | ⟨e1, _⟩
      · exact .inl g
      · exact absurd e1.symm e
    · rcases g with g | ⟨e1, _⟩
      · exact .inl g
      · exact absurd e1.symm e
theorem RowI.nextr (h : RowI k a b r0 s0 ms) (hr : Right k) (hs : s0 = k.procs.length) : RowI k a b (r0 + 1) 0 ms := by
  refine ⟨h.len, fun x hx => (h.iff_ x hx).trans ⟨fun g => g.imp id fun ⟨e, r, s, g1, g2⟩ => ⟨e, r, s, .inl (by omega), g2⟩, fun g => g.imp id fun ⟨e, r, s, g1, g2⟩ => ⟨e, r, s, ?_, g2⟩⟩⟩
  have := root_lt hr g2.2.1
  omega
theorem RowI.nextb (h : RowI k a b r0 s0 ms) (hr : Right k) (hr0 : r0 = k.procs.length) : RowI k a (b + 1) 0 0 ms := by
  refine ⟨h.len, fun x hx => (h.iff_ x hx).trans ⟨fun g => ?_, fun g => ?_⟩⟩
  · rcases g with ⟨g1, g2⟩ | ⟨e, r, s, _, g2⟩
    · exact .inl ⟨by omega, g2⟩
    · exact .inl ⟨by omega, r, s, by rw [e]; exact g2⟩
  · rcases g with ⟨g1, g2⟩ | ⟨e, r, s, g1, _⟩
    · rcases Nat.lt_or_ge x b with g3 | g3
      · exact .inl ⟨g3, g2⟩
      · obtain rfl : x = b := by omega
        obtain ⟨r, s, g4⟩ := g2
        exact .inr ⟨rfl, r, s, .inl (by have := root_lt hr g4.1; omega), g4⟩
    · omega
theorem RowI.full (h : RowI k a b 0 0 ms) (hb : b = k.procs.length) : ms = markL k.procs.length (TabP k a) :=
  eq_markL h.len fun x hx => (h.iff_ x hx).trans ⟨fun g => by
    rcases g with g | ⟨e, _⟩
    · exact g.2
    · omega, fun g => .inl ⟨by omega, g⟩⟩
end
/- Rows of rows. -/
theorem info_row : (Tryz.prog.info? 87).map (fun i => (i.zero, i.size, i.bytes)) = some (some (.slice none 0 0), 1, 24) := by kernel_rfl
def rowsV (n : Nat) (fr : List (Option Addr × Nat)) : List Value := fr.map fun p => .slice p.1 n p.2
section
variable (w : World) {ops : Array Oper} {rest : List Oper} {o : Oper} {a : Act} {Q : Exit → Act → World → Prop}
theorem append_row {wr : World} (m : Nat) (p : Option Addr × Nat) (hgd : o.guard = none) (s x : Operand) (ho : o.op = .call { callee := .builtin .append, args := #[s, x], argTypes := #[88, 88] })
    {base : Nat} {v : Value} {n : Nat} {fr : List (Option Addr × Nat)} (hown : wr.ownsRow base 87 1 v n (rowsV m fr)) (hs : a.eval s = v) (hx : a.eval x = .slice (some ⟨wr.heap.size, 0, none⟩) 1 1)
    (hn : n ≤ 1099511627775) (hbase : base ≤ wr.heap.size)
    (hK : ∀ A c w', w'.ownsRow base 87 1 (.slice A (n + 1) c) (n + 1) (rowsV m (fr ++ [p])) → wr.grownBy w' v.ownBlock → ((Value.slice A (n + 1) c).ownBlock = v.ownBlock ∨ (Value.slice A (n + 1) c).ownBlock = some (wr.heap.size + 1)) →
      wpList Tryz.prog ops Q rest (a.put o.dst (.slice A (n + 1) c)) w') : wpList Tryz.prog ops Q (o :: rest) a (wr.alloc (.cells #[.slice p.1 m p.2] 87)) :=
  append_cells Tryz.underlying88 info_row rfl (by omega) (by omega) hgd s x ho [.slice p.1 m p.2] hown hs hx rfl (by simp [Value.oneCell']) hn hbase
    fun A c w' h1 h2 h3 => hK A c w' (by simpa [rowsV] using h1) h2 h3
theorem append_bool {wr : World} (y : Bool) (hgd : o.guard = none) (s x : Operand) (ho : o.op = .call { callee := .builtin .append, args := #[s, x], argTypes := #[87, 87] })
    {base : Nat} {v : Value} {n : Nat} {bs : List Bool} (hown : wr.ownsRow base 4 1 v n (bs.map bv)) (hs : a.eval s = v) (hx : a.eval x = .slice (some ⟨wr.heap.size, 0, none⟩) 1 1)
    (hn : n ≤ 1099511627775) (hbase : base ≤ wr.heap.size)
    (hK : ∀ A c w', w'.ownsRow base 4 1 (.slice A (n + 1) c) (n + 1) ((bs ++ [y]).map bv) → wr.grownBy w' v.ownBlock → ((Value.slice A (n + 1) c).ownBlock = v.ownBlock ∨ (Value.slice A (n + 1) c).ownBlock = some (wr.heap.size + 1)) →
      wpList Tryz.prog ops Q rest (a.put o.dst (.slice A (n + 1) c)) w') : wpList Tryz.prog ops Q (o :: rest) a (wr.alloc (.cells #[.bool y] 4)) :=
  append_cells Tryz.underlying87 info_bool rfl (by omega) (by omega) hgd s x ho [.bool y] hown hs hx rfl (by simp [Value.oneCell']) hn hbase
    fun A c w' h1 h2 h3 => hK A c w' (by simpa [bv] using h1) h2 h3
end
/-- Two rows lie in other blocks. -/
def Ne (a b : Value) : Prop := ∀ x, a.ownBlock = some x → b.ownBlock ≠ some x
theorem own_kept {w w' : World} {base : Nat} {t : TypeId} {n : Nat} {v u : Value} {xs : List Value} (h : w.ownsRow base t 1 v n xs) (hg : w.grownBy w' u.ownBlock) (hne : Ne v u) : w'.ownsRow base t 1 v n xs :=
  h.kept hg (by
    cases e : v.ownBlock with
    | none => exact .inl rfl
    | some g => exact .inr fun e2 => hne g e e2.symm)
theorem Ne.new {w : World} {base : Nat} {t : TypeId} {n : Nat} {v u u' : Value} {xs : List Value} (h : w.ownsRow base t 1 v n xs) (hne : Ne v u) (hu : u'.ownBlock = u.ownBlock ∨ u'.ownBlock = some (w.heap.size + 1)) : Ne v u' := fun x hx hx' => by
  rcases hu with e | e
  · exact hne x hx (e.symm.trans hx')
  · rw [e] at hx'
    injection hx' with hx'
    have := (h.lt x hx).2
    omega
theorem Ne.fresh {w : World} {base lo : Nat} {t t' : TypeId} {n m : Nat} {v u : Value} {xs ys : List Value} {w' : World} (h : w'.ownsRow lo t 1 v n xs) (g : w.ownsRow base t' 1 u m ys) (hl : w.heap.size ≤ lo) : Ne v u := fun x hx hx' => by
  have h1 := (h.lt x hx).1
  have h2 := (g.lt x hx').2
  omega
theorem Ne.symm' {a b : Value} (h : Ne a b) : Ne b a := fun x hx hx' => h x hx' hx
/-- A row of rows in the making: its own block is none of theirs. -/
structure RR (W : World) (b0 n : Nat) (P : Nat → Nat → Prop) (v : Value) (fr : List (Option Addr × Nat)) : Prop where
  f : W.ownsRow b0 87 1 v fr.length (rowsV n fr)
  r : ∀ i (h : i < fr.length), W.ownsRow b0 4 1 (.slice fr[i].1 n fr[i].2) n ((markL n (P i)).map bv)
  ne : ∀ p ∈ fr, Ne (.slice p.1 n p.2) v
theorem RR.below {W W' : World} {b0 n : Nat} {P : Nat → Nat → Prop} {v : Value} {fr : List (Option Addr × Nat)} (h : RR W b0 n P v fr) (hb : Below W.heap.size W W') : RR W' b0 n P v fr :=
  ⟨own_below h.f hb, fun i hi => own_below (h.r i hi) hb, h.ne⟩
theorem RR.kept {W W' : World} {b0 n : Nat} {P : Nat → Nat → Prop} {v u : Value} {fr : List (Option Addr × Nat)} (h : RR W b0 n P v fr) (hg : W.grownBy W' u.ownBlock) (h1 : Ne v u) (h2 : ∀ p ∈ fr, Ne (.slice p.1 n p.2) u) : RR W' b0 n P v fr :=
  ⟨own_kept h.f hg h1, fun i hi => own_kept (h.r i hi) hg (h2 _ (List.getElem_mem hi)), h.ne⟩
theorem RR.add {W W' : World} {b0 n : Nat} {P : Nat → Nat → Prop} {v v' : Value} {fr : List (Option Addr × Nat)} {A : Option Addr} {c : Nat} (h : RR W b0 n P v fr) (hn : W.ownsRow b0 4 1 (.slice A n c) n ((markL n (P fr.length)).map bv)) (hne : Ne (.slice A n c) v)
    (hf : W'.ownsRow b0 87 1 v' (fr.length + 1) (rowsV n (fr ++ [(A, c)]))) (hg : W.grownBy W' v.ownBlock) (hv : v'.ownBlock = v.ownBlock ∨ v'.ownBlock = some (W.heap.size + 1)) : RR W' b0 n P v' (fr ++ [(A, c)]) := by
  refine ⟨by rw [List.length_append]; exact hf, fun i hi => ?_, fun p hp => ?_⟩
  · rw [List.length_append, List.length_singleton] at hi
    rcases Nat.lt_or_ge i fr.length with hl | hl
    · rw [List.getElem_append_left hl]
      exact own_kept (h.r i hl) hg (h.ne _ (List.getElem_mem hl))
    · obtain rfl : i = fr.length := by omega
      rw [List.getElem_append_right (Nat.le_refl _)]
      simp only [Nat.sub_self, List.getElem_cons_zero]
      exact own_kept hn hg hne
  · rcases List.mem_append.1 hp with hp | hp
    · obtain ⟨i, hi, rfl⟩ := List.getElem_of_mem hp
      exact Ne.new (h.r i hi) (h.ne _ (List.getElem_mem hi)) hv
    · rw [List.mem_singleton.1 hp]
      exact Ne.new hn hne hv
theorem Tch.ownne {g : Nat} {w w1 : World} (h : Tch g g g w w1) {base : Nat} {t : TypeId} {size n : Nat} {v : Value} {xs : List Value} (ho : w.ownsRow base t size v n xs) (hne : v.ownBlock ≠ some g) : w1.ownsRow base t size v n xs := by
  refine ⟨ho.1, ?_⟩
  rcases ho.2 with h0 | ⟨b, cap, cur, e, hb, hh, r⟩
  · exact .inl h0
  · refine .inr ⟨b, cap, cur, e, hb, ?_, r⟩
    subst e
    have hbg : b ≠ g := fun e => hne (by rw [← e]; rfl)
    exact (h.block b (Array.getElem?_eq_some_iff.1 hh).1 hbg hbg hbg).trans hh
theorem RR.tch {W W' : World} {b0 n g : Nat} {P : Nat → Nat → Prop} {v : Value} {fr : List (Option Addr × Nat)} (h : RR W b0 n P v fr) (ht : Tch g g g W W') (h1 : v.ownBlock ≠ some g) (h2 : ∀ p ∈ fr, (Value.slice p.1 n p.2).ownBlock ≠ some g) : RR W' b0 n P v fr :=
  ⟨ht.ownne h.f h1, fun i hi => ht.ownne (h.r i hi) (h2 _ (List.getElem_mem hi)), h.ne⟩
/-- A row of rows, read. -/
theorem RR.read {W : World} {b0 n m c : Nat} {P : Nat → Nat → Prop} {ad : Addr} {fr : List (Option Addr × Nat)} (h : RR W b0 n P (.slice (some ad) m c) fr) (hm : m = fr.length) {i j : Nat} (hi : i < fr.length) (hj : j < n) :
    ∃ ad' c', W.cell? (ad.add i) = some (.slice (some ad') n c') ∧ W.cell? (ad'.add j) = some (.bool (mkd (markL n (P i)) j)) := by
  subst hm
  obtain ⟨ad1, e1, _, hc⟩ := (own_rd h.f) i (.slice fr[i].1 n fr[i].2) (by simp [rowsV, hi])
  injection e1 with e1
  subst e1
  obtain ⟨ad2, e2, _, hc2⟩ := (own_rd (h.r i hi)).mark (j := j) (by rw [markL_len]; exact hj)
  rw [e2] at hc
  exact ⟨ad2, fr[i].2, hc, hc2⟩
theorem RR.some_ {W : World} {b0 n m c : Nat} {P : Nat → Nat → Prop} {A : Option Addr} {fr : List (Option Addr × Nat)} (h : RR W b0 n P (.slice A m c) fr) (hm : m = fr.length) (h0 : 0 < fr.length) : ∃ ad, A = some ad := by
  subst hm
  obtain ⟨ad1, e1, _, hc⟩ := (own_rd h.f) 0 (.slice fr[0].1 n fr[0].2) (by simp [rowsV, h0])
  exact ⟨ad1, e1⟩

/-- A new table: its rows are marks. -/
def NewTab (w : World) (n : Nat) (P : Nat → Nat → Prop) (e : Ending) (w' : World) : Prop :=
  ∃ A c fr, e = .returned (.slice A n c) ∧ fr.length = n ∧ RR w' w.heap.size n P (.slice A n c) fr ∧ Below w.heap.size w w'
set_option maxRecDepth 100000 in
set_option maxHeartbeats 8000000 in
theorem l14Table_any {B L : Nat} (v : CV) (k : Cd) (w : World) (hr : Right k) (hk : CodeAt w B v k) (hcb : CdB L k) (hL : L ≤ 1048576) :
    Calls Tryz.prog 71 #[.agg #[.slice v.gA k.globals.length v.gc, .slice v.lA k.locks.length v.lc, .slice v.pA k.procs.length v.pc, .slice v.eA k.entry.length v.ec, .slice v.iA k.ins.length v.ic]] w (NewTab w k.procs.length (TabP k)) := by
  have hkf := hk.full
  have hbx := codeBox w v k
  have hpl := hr.procs
  have h0p := List.length_pos_of_mem hr.main
  have HR := Lib.hid hr
  have HRT := Lib.hid (fun W (hb : Below w.heap.size w W) => l14Roots_any v k W hr (hkf.below hb))
  have HFR := Lib.hid (fun p (hp : p < k.procs.length) W (hb : Below w.heap.size w W) => l10From_any v k p W hr (hkf.below hb) hp)
  have HSG := Lib.hid (fun p (hp : p < k.procs.length) (hrt : RootP k p) W (hb : Below w.heap.size w W) => l14Single_any v k p W hr (hkf.below hb) hcb hL hp hrt)
  clear hr hk hkf hcb
  go_enter Tryz.func71, Tryz.ntmps71
  go_wp2_with fail
  generalize w.alloc (.cells #[.slice v.gA k.globals.length v.gc, .slice v.lA k.locks.length v.lc, .slice v.pA k.procs.length v.pc, .slice v.eA k.entry.length v.ec, .slice v.iA k.ins.length v.ic] 33) = W at hbx ⊢
  refine (HRT.out _ hbx.1).mono ?_
  rintro e w2 ⟨Ar, cr, rfl, hor, hb2⟩
  rw [markL_len]
  have hbx2 := hbx.to hb2
  have hw2 := hbx2.2.1
  have HBX := Lib.hid (fun V (hb : Below w2.heap.size w2 V) => hbx2.to hb)
  have HRR := Lib.hid (fun V (hb : Below w2.heap.size w2 V) => (own_rd hor).below hb)
  have hf0 : (w2.alloc (.cells #[] 87)).ownsRow w2.heap.size 87 1 (.slice (some ⟨w2.heap.size, 0, none⟩) 0 0) 0 (rowsV k.procs.length []) := by
    have := World.ownsRow_lit (base := w2.heap.size) (e := 87) (size := 1) w2 #[] 0 (Nat.le_refl _) (by simp) rfl
    simpa [rowsV] using this
  have hbA := below_alloc0 w2 (.cells #[] 87)
  have hbB := below_alloc0 (w2.alloc (.cells #[] 87)) (.cells #[] 4)
  have hs0 : ((w2.alloc (.cells #[] 87)).alloc (.cells #[] 4)).ownsRow w2.heap.size 4 1 (.slice (some ⟨w2.heap.size + 1, 0, none⟩) 0 0) 0 ((([] : List Bool)).map bv) := by
    have := World.ownsRow_lit (base := w2.heap.size) (e := 4) (size := 1) (w2.alloc (.cells #[] 87)) #[] 0 (by simp) (by simp) rfl
    simpa using this
  have hR0 : RR ((w2.alloc (.cells #[] 87)).alloc (.cells #[] 4)) w2.heap.size k.procs.length (fun r a => FromP k r a) (.slice (some ⟨w2.heap.size, 0, none⟩) 0 0) [] :=
    ⟨own_below hf0 hbB, fun i hi => by simp at hi, fun p hp => by simp at hp⟩
  have hbAB := below_trans' hbA hbB
  have hne0 : Ne (.slice (some ⟨w2.heap.size, 0, none⟩) 0 0) (.slice (some ⟨w2.heap.size + 1, 0, none⟩) 0 0) := fun x h1 h2 => by
    injection h1 with h1
    injection h2 with h2
    simp at h1 h2
    omega
  obtain ⟨q1, q2, c0, c1, c2, c3, c4⟩ := HBX.out _ hbAB
  clear hf0 hbA hbB hbx hb2 hor hbx2
  go_wp2_with fail
  clear q1 q2 c0 c1 c2 c3 c4
  go_loopg [4, 5, 6] k.procs.length (fun l vf vs i wr => ∃ (j : Nat) (fr : List (Option Addr × Nat)), j ≤ k.procs.length ∧ fr.length = j ∧ l = k.procs.length - j ∧ i = .int .i64 j ∧ RR wr w2.heap.size k.procs.length (fun r a => FromP k r a) vf fr ∧ wr.ownsRow w2.heap.size 4 1 vs j (((List.range j).map (singB k)).map bv) ∧ Ne vf vs ∧ (∀ p ∈ fr, Ne (.slice p.1 k.procs.length p.2) vs) ∧ Below w2.heap.size w2 wr)
  case atStart => exact ⟨0, [], by omega, rfl, by omega, rfl, hR0, hs0, hne0, fun p hp => by simp at hp, hbAB⟩
  case round =>
    clear hR0 hs0 hne0 hbAB
    obtain ⟨j, fr, hj, hfl, rfl, rfl, hRR, hs, hnf, hnr, hb⟩ := hrel
    obtain ⟨cf, Af, rfl⟩ : ∃ cf Af, _ := by
      obtain ⟨Af, cf, e⟩ := own_form hRR.f
      exact ⟨cf, Af, e⟩
    obtain ⟨cs, As, rfl⟩ : ∃ cs As, _ := by
      obtain ⟨As, cs, e⟩ := own_form hs
      exact ⟨cs, As, e⟩
    have hsz := hb.size
    have hbxr := HBX.out _ hb
    obtain ⟨q1, q2, c0, c1, c2, c3, c4⟩ := id hbxr
    have HFL := Lib.hid hfl
    by_cases hlt : j < k.procs.length
    · have z1 : (0 : Int) ≤ (j : Int) := by omega
      have z2 : (j : Int) < (k.procs.length : Int) := by omega
      have hfl8 : fr.length ≤ 1000 := by omega
      clear hfl
      go_wp2_with fail
      refine (HFR.out j hlt _ hbxr.1).mono ?_
      rintro e w3 ⟨An, cn, rfl, hon, hb3⟩
      rw [markL_len] at hon ⊢
      have hRR3 := hRR.below hb3
      have hs3 := own_below hs hb3
      have hb03 := below_trans' hb hb3
      have hnew_f : Ne (.slice An k.procs.length cn) (.slice Af fr.length cf) := Ne.fresh hon hRR.f (Nat.le_refl _)
      have hnew_s : Ne (.slice An k.procs.length cn) (.slice As j cs) := Ne.fresh hon hs (Nat.le_refl _)
      have hon3 := own_mono hon hsz
      have hsz3 := hb03.size
      have HON := Lib.hid (show w3.ownsRow w2.heap.size 4 1 (.slice An k.procs.length cn) k.procs.length ((markL k.procs.length ((fun r a => FromP k r a) fr.length)).map bv) from by rw [HFL.out]; exact hon3)
      clear q1 q2 c0 c1 c2 c3 c4 hon hb3 hbxr hRR hs hb
      by_cases hrt : RootP k j
      · have HRTJ := Lib.hid hrt
        clear hrt
        go_wp2_with (at_builtin; refine append_row k.procs.length (An, cn) rfl _ _ rfl hRR3.f rfl rfl (by omega) hsz3 ?_; intro A4 c4 w4 ho4 hg4 hv4; have hRR4 := hRR3.add HON.out hnew_f ho4 hg4 hv4; have hs4 := own_kept hs3 hg4 hnf.symm'; have hb04 := below_append hb03 hRR3.f hg4 hsz3 (Nat.le_refl _); have hsz4 := hb04.size; obtain ⟨adr, ear, _, hcr⟩ := (HRR.out _ hb04).mark (j := j) (by rw [markL_len]; exact hlt); subst ear; obtain ⟨q1, q2, c0, c1, c2, c3, c4'⟩ := id (HBX.out _ hb04); rw [mkd_markL_pos hlt HRTJ.out] at hcr)
        refine (HSG.out j hlt HRTJ.out _ q1).mono ?_
        rintro e w5 ⟨rfl, hb5⟩
        have hRR5 := hRR4.below hb5
        have hs5 := own_below hs4 hb5
        have hb05 := below_trans' hb04 hb5
        have hsz5 := hb05.size
        have hn4 : Ne (.slice A4 (fr.length + 1) c4) (.slice As j cs) := fun x hx hx' => by
          rcases hv4 with e4 | e4
          · exact hnf x (e4.symm.trans hx) hx'
          · rw [e4] at hx
            injection hx with hx
            have := (hs3.lt x hx').2
            omega
        have hnr4 : ∀ p ∈ fr ++ [(An, cn)], Ne (.slice p.1 k.procs.length p.2) (.slice As j cs) := fun p hp => by
          rcases List.mem_append.1 hp with hp | hp
          · exact hnr p hp
          · rw [List.mem_singleton.1 hp]; exact hnew_s
        clear q1 q2 c0 c1 c2 c3 c4' hcr hb5 hRR4 hs4 hb04 hRR3 hs3 hb03
        go_wp2_with (at_builtin; refine append_bool (singB k j) rfl _ _ rfl hs5 rfl rfl (by omega) hsz5 ?_; intro A6 c6 w6 ho6 hg6 hv6; have hb06 := below_append hb05 hs5 hg6 hsz5 (Nat.le_refl _))
        go_roundg (k.procs.length - (j + 1))
        case measure => omega
        case rel =>
          refine ⟨j + 1, fr ++ [(An, cn)], by omega, by rw [List.length_append, HFL.out]; rfl, rfl, by go_num, hRR5.kept hg6 hn4 hnr4, ?_, ?_, ?_, hb06⟩
          · rw [List.range_succ, List.map_append, List.map_cons, List.map_nil]; exact ho6
          · intro x hx hx'
            rcases hv6 with e6 | e6
            · exact hn4 x hx (e6.symm.trans hx')
            · rw [e6] at hx'
              injection hx' with hx'
              have := (hRR5.f.lt x hx).2
              omega
          · intro p hp
            obtain ⟨i, hi, rfl⟩ := List.getElem_of_mem hp
            exact Ne.new (hRR5.r i hi) (hnr4 _ (List.getElem_mem hi)) hv6
      · have HSF := Lib.hid (show singB k j = false from singB_no fun h => hrt h.1)
        have HRTJ := Lib.hid hrt
        clear hrt
        go_wp2_with (at_builtin; first | (refine append_row k.procs.length (An, cn) rfl _ _ rfl hRR3.f rfl rfl (by omega) hsz3 ?_; intro A4 c4 w4 ho4 hg4 hv4; have hRR4 := hRR3.add HON.out hnew_f ho4 hg4 hv4; have hs4 := own_kept hs3 hg4 hnf.symm'; have hb04 := below_append hb03 hRR3.f hg4 hsz3 (Nat.le_refl _); have hsz4 := hb04.size; obtain ⟨adr, ear, _, hcr⟩ := (HRR.out _ hb04).mark (j := j) (by rw [markL_len]; exact hlt); subst ear; obtain ⟨q1, q2, c0, c1, c2, c3, c4'⟩ := id (HBX.out _ hb04); rw [mkd_markL_neg HRTJ.out] at hcr) | (refine append_bool false rfl _ _ rfl hs4 rfl rfl (by omega) hsz4 ?_; intro A6 c6 w6 ho6 hg6 hv6; have hb06 := below_append hb04 hs4 hg6 hsz4 (Nat.le_refl _)))
        have hn4 : Ne (.slice A4 (fr.length + 1) c4) (.slice As j cs) := fun x hx hx' => by
          rcases hv4 with e4 | e4
          · exact hnf x (e4.symm.trans hx) hx'
          · rw [e4] at hx
            injection hx with hx
            have := (hs3.lt x hx').2
            omega
        have hnr4 : ∀ p ∈ fr ++ [(An, cn)], Ne (.slice p.1 k.procs.length p.2) (.slice As j cs) := fun p hp => by
          rcases List.mem_append.1 hp with hp | hp
          · exact hnr p hp
          · rw [List.mem_singleton.1 hp]; exact hnew_s
        have hRR5 := hRR4
        go_roundg (k.procs.length - (j + 1))
        case measure => omega
        case rel =>
          refine ⟨j + 1, fr ++ [(An, cn)], by omega, by rw [List.length_append, HFL.out]; rfl, rfl, by go_num, hRR5.kept hg6 hn4 hnr4, ?_, ?_, ?_, hb06⟩
          · rw [List.range_succ, List.map_append, List.map_cons, List.map_nil, HSF.out]; exact ho6
          · intro x hx hx'
            rcases hv6 with e6 | e6
            · exact hn4 x hx (e6.symm.trans hx')
            · rw [e6] at hx'
              injection hx' with hx'
              have := (hRR5.f.lt x hx).2
              omega
          · intro p hp
            obtain ⟨i, hi, rfl⟩ := List.getElem_of_mem hp
            exact Ne.new (hRR5.r i hi) (hnr4 _ (List.getElem_mem hi)) hv6
    · obtain rfl : j = k.procs.length := by omega
      obtain ⟨adF, rfl⟩ := hRR.some_ rfl (by omega)
      have hfl8 : fr.length ≤ 1000 := by omega
      obtain ⟨adS, eaS, _, _⟩ := (own_rd hs) 0 (bv (singB k 0)) (by simp [h0p])
      subst eaS
      obtain ⟨adR, eaR, _, _⟩ := (HRR.out _ hb).mark (j := 0) (by rw [markL_len]; exact h0p)
      subst eaR
      obtain ⟨w5, rfl⟩ : ∃ w5 : World, w5 = wr := ⟨_, rfl⟩
      have HBX5 := Lib.hid (fun V (hv : Below w5.heap.size w5 V) => HBX.out V (below_trans' hb hv))
      have HRED := Lib.hid (fun r (hr : r < k.procs.length) a (ha : a < k.procs.length) V (hv : Below w5.heap.size w5 V) => (hRR.below hv).read rfl (i := r) (j := a) (by omega) ha)
      have HSN := Lib.hid (show ∀ r, r < k.procs.length → ∀ V, Below w5.heap.size w5 V → V.cell? (adS.add r) = some (.bool (singB k r)) from fun r hr V hv => by
        obtain ⟨ad, e, _, c⟩ := (own_rd (own_below hs hv)) r (bv (singB k r)) (by simp [hr])
        injection e with e
        subst e
        exact c)
      have HRO := Lib.hid (show ∀ r, r < k.procs.length → ∀ V, Below w5.heap.size w5 V → V.cell? (adR.add r) = some (.bool (mkd (markL k.procs.length (RootP k)) r)) from fun r hr V hv => by
        obtain ⟨ad, e, _, c⟩ := (HRR.out V (below_trans' hb hv)).mark (j := r) (by rw [markL_len]; exact hr)
        injection e with e
        subst e
        exact c)
      have hf0 : (w5.alloc (.cells #[] 87)).ownsRow w5.heap.size 87 1 (.slice (some ⟨w5.heap.size, 0, none⟩) 0 0) 0 (rowsV k.procs.length []) := by
        have := World.ownsRow_lit (base := w5.heap.size) (e := 87) (size := 1) w5 #[] 0 (Nat.le_refl _) (by simp) rfl
        simpa [rowsV] using this
      have hbA := below_alloc0 w5 (.cells #[] 87)
      have hR0 : RR (w5.alloc (.cells #[] 87)) w5.heap.size k.procs.length (TabP k) (.slice (some ⟨w5.heap.size, 0, none⟩) 0 0) [] :=
        ⟨hf0, fun i hi => by simp at hi, fun p hp => by simp at hp⟩
      have hw5 : w.heap.size ≤ w5.heap.size := Nat.le_trans (Nat.le_of_lt hw2) hb.size
      have HBW := Lib.hid (fun V (hv : Below w5.heap.size w5 V) => (HBX5.out V hv).1)
      clear hRR hs hnf hnr hf0 hbxr HRR
      obtain ⟨p1, p2, d0, d1, d2, d3, d4⟩ := HBX5.out _ hbA
      have HFN := Lib.hid hfl
      clear hfl HFL
      go_wp2_with fail
      clear q1 q2 c0 c1 c2 c3 c4 p1 p2 d0 d1 d2 d3 d4
      go_loopg [7, 8] k.procs.length (fun l vo i wr => ∃ (a : Nat) (tr : List (Option Addr × Nat)), a ≤ k.procs.length ∧ tr.length = a ∧ l = k.procs.length - a ∧ i = .int .i64 a ∧ RR wr w5.heap.size k.procs.length (TabP k) vo tr ∧ Below w5.heap.size w5 wr)
      case atStart => exact ⟨0, [], by omega, rfl, by omega, rfl, hR0, hbA⟩
      case round =>
        clear hR0 hbA
        obtain ⟨a, tr, ha, htl, rfl, rfl, hRT, hbr⟩ := hrel
        obtain ⟨ct, At, rfl⟩ : ∃ ct At, _ := by
          obtain ⟨At, ct, e⟩ := own_form hRT.f
          exact ⟨ct, At, e⟩
        have HTLN := Lib.hid htl
        have htl8 : tr.length ≤ 1000 := by omega
        have hsz := hbr.size
        obtain ⟨q1, q2, c0, c1, c2, c3, c4⟩ := HBX5.out _ hbr
        by_cases hla : a < k.procs.length
        · clear htl
          have x1 : (0 : Int) ≤ (a : Int) := by omega
          have x2 : (a : Int) < (k.procs.length : Int) := by omega
          go_wp2_with (at_make; refine make_bools _ rfl _ _ rfl k.procs.length rfl rfl (by omega) ?_; intro w6 hown hb6; obtain ⟨q1', q2', d0, d1, d2, d3, d4⟩ := HBX5.out _ (below_trans' hbr hb6))
          have hb06 := below_trans' hbr hb6
          have hRT6 := hRT.below hb6
          have hgx6 := (own_lt hown).2
          have hne1 : (Value.slice At tr.length ct).ownBlock ≠ some wr.heap.size := fun e => by have := (hRT.f.lt _ e).2; omega
          have hne2 : ∀ p ∈ tr, (Value.slice p.1 k.procs.length p.2).ownBlock ≠ some wr.heap.size := fun p hp e => by
            obtain ⟨i, hi, rfl⟩ := List.getElem_of_mem hp
            have := (hRT.r i hi).lt _ e
            omega
          have hI0 := RowI.start k a
          clear q1 q2 c0 c1 c2 c3 c4 q1' q2' d0 d1 d2 d3 d4 hb6 hRT hbr
          generalize wr.heap.size = gx at *
          have HB := Lib.hid (fun V (h : Tch gx gx gx w6 V) => hb06.trans (h.below hb06.size hsz hsz hsz))
          have HRT6 := Lib.hid (fun V (h : Tch gx gx gx w6 V) => hRT6.tch h hne1 hne2)
          go_loopg [10] k.procs.length (fun l i wr => ∃ (b : Nat) (ms : List Bool), b ≤ k.procs.length ∧ l = k.procs.length - b ∧ i = .int .i64 b ∧ RowI k a b 0 0 ms ∧ wr.ownsRow gx 4 1 (.slice (some ⟨gx, 0, none⟩) k.procs.length k.procs.length) k.procs.length (ms.map bv) ∧ Tch gx gx gx w6 wr)
          case atStart => exact ⟨0, _, by omega, by omega, rfl, hI0, hown, Tch.refl _ _ _ _⟩
          case round =>
            clear hI0 hown
            obtain ⟨b, ms, hb0, rfl, rfl, hI, ho, hT⟩ := hrel
            have HI := Lib.hid hI
            clear hI
            obtain ⟨q1, q2, c0, c1, c2, c3, c4⟩ := HBX5.out _ (HB.out _ hT)
            by_cases hlb : b < k.procs.length
            · have y1 : (0 : Int) ≤ (b : Int) := by omega
              have y2 : (b : Int) < (k.procs.length : Int) := by omega
              go_wp2_with fail
              clear q1 q2 c0 c1 c2 c3 c4
              go_loopg [11] k.procs.length (fun l i wr => ∃ (r : Nat) (ms : List Bool), r ≤ k.procs.length ∧ l = k.procs.length - r ∧ i = .int .i64 r ∧ RowI k a b r 0 ms ∧ wr.ownsRow gx 4 1 (.slice (some ⟨gx, 0, none⟩) k.procs.length k.procs.length) k.procs.length (ms.map bv) ∧ Tch gx gx gx w6 wr)
              case atStart => exact ⟨0, ms, by omega, by omega, rfl, HI.out, ho, hT⟩
              case round =>
                clear ho hT HI
                obtain ⟨r, ms, hr0, rfl, rfl, hI, ho, hT⟩ := hrel
                have HI := Lib.hid hI
                clear hI
                obtain ⟨q1, q2, c0, c1, c2, c3, c4⟩ := HBX5.out _ (HB.out _ hT)
                by_cases hlr : r < k.procs.length
                · have u1 : (0 : Int) ≤ (r : Int) := by omega
                  have u2 : (r : Int) < (k.procs.length : Int) := by omega
                  go_wp2_with fail
                  clear q1 q2 c0 c1 c2 c3 c4
                  go_loopg [12] k.procs.length (fun l i wr => ∃ (s : Nat) (ms : List Bool), s ≤ k.procs.length ∧ l = k.procs.length - s ∧ i = .int .i64 s ∧ RowI k a b r s ms ∧ wr.ownsRow gx 4 1 (.slice (some ⟨gx, 0, none⟩) k.procs.length k.procs.length) k.procs.length (ms.map bv) ∧ Tch gx gx gx w6 wr)
                  case atStart => exact ⟨0, ms, by omega, by omega, rfl, HI.out, ho, hT⟩
                  case round =>
                    clear ho hT HI
                    obtain ⟨s, ms, hs0, rfl, rfl, hI, ho, hT⟩ := hrel
                    have HI := Lib.hid hI
                    clear hI
                    have hbV := HB.out _ hT
                    obtain ⟨q1, q2, c0, c1, c2, c3, c4⟩ := HBX5.out _ (HB.out _ hT)
                    by_cases hls : s < k.procs.length
                    · have v1 : (0 : Int) ≤ (s : Int) := by omega
                      have v2 : (s : Int) < (k.procs.length : Int) := by omega
                      have u3 : (r : Int) < (fr.length : Int) := by have := HFN.out; omega
                      have v3 : (s : Int) < (fr.length : Int) := by have := HFN.out; omega
                      have cR1 := HRO.out r hlr _ hbV
                      have cR2 := HRO.out s hls _ hbV
                      have cS := HSN.out r hlr _ hbV
                      obtain ⟨ad1, k1, cf1, ca⟩ := HRED.out r hlr a hla _ hbV
                      obtain ⟨ad2, k2, cf2, cb⟩ := HRED.out s hls b hlb _ hbV
                      clear hbV
                      by_cases g1 : RootP k r
                      · rw [mkd_markL_pos hlr g1] at cR1
                        have G1 := Lib.hid g1
                        clear g1
                        by_cases g2 : RootP k s
                        · rw [mkd_markL_pos hls g2] at cR2
                          have G2 := Lib.hid g2
                          clear g2
                          by_cases g3 : FromP k r a
                          · rw [mkd_markL_pos hla g3] at ca
                            have G3 := Lib.hid g3
                            clear g3
                            by_cases g4 : FromP k s b
                            · rw [mkd_markL_pos hlb g4] at cb
                              have G4 := Lib.hid g4
                              clear g4
                              by_cases g5 : r = s
                              · have hne : ((r : Int) != (s : Int)) = false := by rw [g5]; simp
                                have G5 := Lib.hid g5
                                clear g5
                                by_cases g6 : SingR k r
                                · rw [show singB k r = true from singB_yes g6] at cS
                                  have G6 := Lib.hid g6
                                  clear g6
                                  have HI2 := Lib.hid (HI.out.skip (fun h => h.2.2.2.2.elim (fun e => e G5.out) (fun e => e G6.out)))
                                  go_wp2_with fail
                                  go_roundg (k.procs.length - (s + 1))
                                  case measure => omega
                                  case rel => exact ⟨s + 1, ms, by omega, rfl, by go_num, HI2.out, ho, hT⟩
                                · rw [show singB k r = false from singB_no g6] at cS
                                  have G6 := Lib.hid g6
                                  clear g6
                                  have HI2 := Lib.hid (HI.out.hit hlb (⟨G1.out, G2.out, G3.out, G4.out, .inr G6.out⟩))
                                  obtain ⟨u, hu⟩ := own_has ho (j := b) (by omega)
                                  have fz := ho.frozenAt b
                                  go_wp2_with fail
                                  obtain ⟨s1, _⟩ := ho.stored b (bv true)
                                  rw [bv_set] at s1
                                  go_roundg (k.procs.length - (s + 1))
                                  case measure => omega
                                  case rel => exact ⟨s + 1, ms.set b true, by omega, rfl, by go_num, HI2.out, s1, hT.set (.inl rfl) _⟩
                              · have hne : ((r : Int) != (s : Int)) = true := by simp only [bne_iff_ne, ne_eq]; omega
                                have G5 := Lib.hid g5
                                clear g5
                                have HI2 := Lib.hid (HI.out.hit hlb (⟨G1.out, G2.out, G3.out, G4.out, .inl G5.out⟩))
                                obtain ⟨u, hu⟩ := own_has ho (j := b) (by omega)
                                have fz := ho.frozenAt b
                                go_wp2_with fail
                                obtain ⟨s1, _⟩ := ho.stored b (bv true)
                                rw [bv_set] at s1
                                go_roundg (k.procs.length - (s + 1))
                                case measure => omega
                                case rel => exact ⟨s + 1, ms.set b true, by omega, rfl, by go_num, HI2.out, s1, hT.set (.inl rfl) _⟩
                            · rw [mkd_markL_neg g4] at cb
                              have G4 := Lib.hid g4
                              clear g4
                              have HI2 := Lib.hid (HI.out.skip (fun h => G4.out h.2.2.2.1))
                              go_wp2_with fail
                              go_roundg (k.procs.length - (s + 1))
                              case measure => omega
                              case rel => exact ⟨s + 1, ms, by omega, rfl, by go_num, HI2.out, ho, hT⟩
                          · rw [mkd_markL_neg g3] at ca
                            have G3 := Lib.hid g3
                            clear g3
                            have HI2 := Lib.hid (HI.out.skip (fun h => G3.out h.2.2.1))
                            go_wp2_with fail
                            go_roundg (k.procs.length - (s + 1))
                            case measure => omega
                            case rel => exact ⟨s + 1, ms, by omega, rfl, by go_num, HI2.out, ho, hT⟩
                        · rw [mkd_markL_neg g2] at cR2
                          have G2 := Lib.hid g2
                          clear g2
                          have HI2 := Lib.hid (HI.out.skip (fun h => G2.out h.2.1))
                          go_wp2_with fail
                          go_roundg (k.procs.length - (s + 1))
                          case measure => omega
                          case rel => exact ⟨s + 1, ms, by omega, rfl, by go_num, HI2.out, ho, hT⟩
                      · rw [mkd_markL_neg g1] at cR1
                        have G1 := Lib.hid g1
                        clear g1
                        have HI2 := Lib.hid (HI.out.skip (fun h => G1.out h.1))
                        go_wp2_with fail
                        go_roundg (k.procs.length - (s + 1))
                        case measure => omega
                        case rel => exact ⟨s + 1, ms, by omega, rfl, by go_num, HI2.out, ho, hT⟩
                    · obtain rfl : s = k.procs.length := by omega
                      have HI2 := Lib.hid (HI.out.nextr HR.out rfl)
                      go_wp2_with fail
                      go_roundg (k.procs.length - (r + 1))
                      case measure => omega
                      case rel => exact ⟨r + 1, ms, by omega, rfl, by go_num, HI2.out, ho, hT⟩
                · obtain rfl : r = k.procs.length := by omega
                  have HI2 := Lib.hid (HI.out.nextb HR.out rfl)
                  go_wp2_with fail
                  go_roundg (k.procs.length - (b + 1))
                  case measure => omega
                  case rel => exact ⟨b + 1, ms, by omega, rfl, by go_num, HI2.out, ho, hT⟩
            · obtain rfl : b = k.procs.length := by omega
              have hms := HI.out.full rfl
              subst hms
              have hRT7 := HRT6.out _ hT
              have hb7 := HB.out _ hT
              have hsz7 := hb7.size
              have hon : wr.ownsRow w5.heap.size 4 1 (.slice (some ⟨gx, 0, none⟩) k.procs.length k.procs.length) k.procs.length ((markL k.procs.length (TabP k tr.length)).map bv) := by rw [HTLN.out]; exact own_mono ho hsz
              have HON := Lib.hid hon
              have hnew : Ne (.slice (some ⟨gx, 0, none⟩) k.procs.length k.procs.length) (.slice At tr.length ct) := fun x hx hx' => hne1 (by rw [hx']; exact hx.symm)
              clear hon ho HI
              go_wp2_with (at_builtin; refine append_row k.procs.length (some ⟨gx, 0, none⟩, k.procs.length) rfl _ _ rfl hRT7.f rfl rfl (by omega) hsz7 ?_; intro A8 c8 w8 ho8 hg8 hv8; have hRT8 := hRT7.add HON.out hnew ho8 hg8 hv8; have hb8 := below_append hb7 hRT7.f hg8 hsz7 (Nat.le_refl _))
              go_roundg (k.procs.length - (a + 1))
              case measure => omega
              case rel => exact ⟨a + 1, tr ++ [(some ⟨gx, 0, none⟩, k.procs.length)], by omega, by rw [List.length_append, HTLN.out]; rfl, rfl, by go_num, hRT8, hb8⟩
        · have htn : tr.length = k.procs.length := by omega
          have HFI := Lib.hid (show NewTab w k.procs.length (TabP k) (.returned (.slice At tr.length ct)) wr from by
            have h := hRT
            rw [htn] at h ⊢
            exact ⟨At, ct, tr, rfl, htn, ⟨own_mono h.f hw5, fun i hi => own_mono (h.r i hi) hw5, h.ne⟩, HBW.out _ hbr⟩)
          clear htl htn
          go_wp2_with fail
          go_ret
          exact HFI.out
end Go.Proofs.YtfecdgjnncpcjaaGreat
