/- Marks that a law lays into code that it made: what they leave as it was. -/
import Derived.Test.YtkgoajnnkimkaaaGreatC1
import Derived.Test.YtkgoajnnkimkaaaGreatB3
import Derived.Test.YtkgoajnnkimkaaaGreatB4
import Derived.Laws.BytesArg
set_option linter.unusedSimpArgs false
set_option linter.unusedVariables false
namespace Go.Proofs.YtkgoajnnkimkaaaGreat
open Go.ChangeShapes Go.WideShapes Go.ChangeAt Go.RowKit

/-- The figures of a number ahead of s. -/
def markOut : Nat → Nat → ByteArray → ByteArray
  | 0, _, s => s
  | f + 1, j, s => if j = 0 then s else markOut f (j / 10) (strOfNums [48 + (j : Int) % 10] ++ s)
theorem markOut_fuel : ∀ (f g j : Nat) (s : ByteArray), j ≤ f → j ≤ g → markOut f j s = markOut g j s := by
  intro f
  induction f with
  | zero =>
    intro g j s h _
    rw [show j = 0 from by omega]
    cases g <;> simp [markOut]
  | succ f ih =>
    intro g j s h1 h2
    cases g with
    | zero =>
      rw [show j = 0 from by omega]
      simp [markOut]
    | succ g =>
      rw [markOut, markOut]
      by_cases e : j = 0
      · rw [if_pos e, if_pos e]
      · rw [if_neg e, if_neg e]
        exact ih _ _ _ (by omega) (by omega)
theorem markOut_size : ∀ (f j : Nat) (s : ByteArray), (markOut f j s).size ≤ s.size + j := by
  intro f
  induction f with
  | zero => intro j s; simp [markOut]
  | succ f ih =>
    intro j s
    rw [markOut]
    by_cases e : j = 0
    · rw [if_pos e]; omega
    · rw [if_neg e]
      have := ih (j / 10) (strOfNums [48 + (j : Int) % 10] ++ s)
      rw [ByteArray.size_append, strOfNums_size] at this
      simp at this
      omega
/-- What markText answers. -/
def markT (k : Nat) : ByteArray := if k = 0 then ⟨#[109, 48]⟩ else ⟨#[109]⟩ ++ markOut k k ⟨#[]⟩

set_option maxRecDepth 100000 in
theorem markText_any (k : Nat) (w : World) (hk : k ≤ 1000000000) :
    Calls Tryz.prog 183 #[.int .i64 k] w fun e w' => e = .returned (.string (markT k)) ∧ Below w.heap.size w w' := by
  have hcv := fun (W : World) (n : Int) => run_convert_bytes_arg (P := Tryz.prog) (W.alloc (.cells #[.int .u8 n] 5)) 22 5 Tryz.underlying22 Tryz.underlying5 W.heap.size 0 1 1 [n] rfl (fun i hi => by
    obtain rfl : i = 0 := by omega
    exact box_cell W #[.int .u8 n] 5 0 rfl) 9 Tryz.underlying9
  rcases Nat.eq_zero_or_pos k with h0 | hp
  · subst h0
    go_enter Tryz.func183, Tryz.ntmps183
    go_wp2
    go_ret
    exact ⟨rfl, Below.refl _ _⟩
  · have e0 : decide ((k : Int) ≤ 0) = false := by simp; omega
    have HK := Lib.hid (show markT k = ⟨#[109]⟩ ++ markOut k k ⟨#[]⟩ from by rw [markT, if_neg (by omega)])
    generalize hM : markOut k k ⟨#[]⟩ = M at HK
    have hMs : M.size ≤ k := by rw [← hM]; have h1 := markOut_size k k ⟨#[]⟩; have h2 : (ByteArray.mk #[]).size = 0 := rfl; omega
    go_enter Tryz.func183, Tryz.ntmps183
    go_wp2_with fail
    go_loopg [0, 3] k (fun l kv sv wr => ∃ (s : ByteArray), l ≤ k ∧ kv = .int .i64 l ∧ sv = .string s ∧ markOut l l s = M ∧ s.size + l ≤ k ∧ Below w.heap.size w wr)
    case atStart => exact ⟨_, Nat.le_refl _, rfl, rfl, hM, by have h2 : (ByteArray.mk #[]).size = 0 := rfl; omega, Below.refl _ _⟩
    case round =>
      obtain ⟨s, hj, rfl, rfl, hm, hs, hb⟩ := hrel
      obtain ⟨j, rfl⟩ : ∃ j : Nat, j = gk := ⟨_, rfl⟩
      have HM := Lib.hid hm
      clear hm hM
      by_cases hlt : 0 < j
      · have hsz : (strOfNums [48 + (j : Int) % 10]).size = 1 := by rw [strOfNums_size]; rfl
        have hss : ¬ 9223372036854775807 < (strOfNums [48 + (j : Int) % 10]).size + s.size := by rw [hsz]; omega
        have HSZ := Lib.hid hsz
        clear hsz
        go_wp2_with fail
        go_roundg (j / 10)
        case measure => omega
        case rel =>
          refine ⟨strOfNums [48 + (j : Int) % 10] ++ s, by omega, by go_num, rfl, ?_, ?_, below_trans' hb (below_alloc0 _ _)⟩
          · obtain ⟨i, rfl⟩ : ∃ i, j = i + 1 := ⟨j - 1, by omega⟩
            rw [← HM.out, markOut, if_neg (by omega)]
            exact markOut_fuel _ _ _ _ (Nat.le_refl _) (by omega)
          · rw [ByteArray.size_append, HSZ.out]
            omega
      · obtain rfl : j = 0 := by omega
        have hss : ¬ 9223372036854775807 < (ByteArray.mk #[109]).size + s.size := by have h2 : (ByteArray.mk #[109]).size = 1 := rfl; omega
        have HM2 := Lib.hid (show s = M from HM.out)
        go_wp2_with fail
        go_ret
        refine ⟨?_, hb⟩
        rw [HK.out, ← HM2.out]
        rfl

/-- A cell that holds a number or a text. -/
def Scal (u : Value) : Prop := (∃ k n, u = .int k n) ∨ ∃ s, u = .string s
theorem scal_int (n : Int) : Scal (.int .i64 n) := .inl ⟨_, _, rfl⟩
theorem scal_str (s : ByteArray) : Scal (.string s) := .inr ⟨_, rfl⟩
theorem scal_slice {A : Option Addr} {n c : Nat} : ¬ Scal (.slice A n c) := by
  rintro (⟨k, m, h⟩ | ⟨s, h⟩) <;> simp at h
/-- Blocks from lo up to hi alone may have changed, and of those only numbers and texts, into numbers and texts. -/
structure Mk (lo hi : Nat) (w w' : World) : Prop where
  os : w'.os = w.os
  tape : w'.tape = w.tape
  output : w'.output = w.output
  size : w.heap.size ≤ w'.heap.size
  block : ∀ b, b < w.heap.size → b < lo ∨ hi ≤ b → w'.heap[b]? = w.heap[b]?
  cells : ∀ (a : Addr) u, (High w lo).cell? a = some u → a.block < hi → ∃ u', (High w' lo).cell? a = some u' ∧ (u' = u ∨ (Scal u ∧ Scal u'))
section
variable {lo hi : Nat} {w w1 w2 : World}
theorem Mk.refl (lo hi : Nat) (w : World) : Mk lo hi w w := ⟨rfl, rfl, rfl, Nat.le_refl _, fun _ _ _ => rfl, fun a u h _ => ⟨u, h, .inl rfl⟩⟩
theorem Mk.trans (h : Mk lo hi w w1) (k : Mk lo hi w1 w2) : Mk lo hi w w2 := by
  refine ⟨k.os.trans h.os, k.tape.trans h.tape, k.output.trans h.output, Nat.le_trans h.size k.size, fun b hb hr => (k.block b (Nat.lt_of_lt_of_le hb h.size) hr).trans (h.block b hb hr), fun a u hu ha => ?_⟩
  obtain ⟨u1, h1, h2⟩ := h.cells a u hu ha
  obtain ⟨u2, h3, h4⟩ := k.cells a u1 h1 ha
  refine ⟨u2, h3, ?_⟩
  rcases h2 with rfl | ⟨h5, h6⟩
  · exact h4
  · rcases h4 with rfl | ⟨h7, h8⟩
    · exact .inr ⟨h5, h6⟩
    · exact .inr ⟨h5, h8⟩
theorem Mk.below (hb : Below w.heap.size w w1) : Mk lo hi w w1 :=
  ⟨hb.os, hb.tape, hb.output, hb.size, fun b h _ => hb.block b h, fun a u h _ => ⟨u, high_below (Nat.le_refl _) hb a u h, .inl rfl⟩⟩
theorem Mk.set {a : Addr} {u x : Value} (h : (High w lo).cell? a = some u) (ha : a.block < hi) (hu : Scal u) (hx : Scal x) : Mk lo hi w (w.setCell a x) := by
  have hlo := high_le h
  refine ⟨rfl, rfl, rfl, by simp, fun b _ hr => Below.heap_setCell w a x b (by omega), fun b y hy hb => ?_⟩
  obtain ⟨h1, h2, c, t, h3⟩ := high_some.1 hy
  have hblk : ∃ c t, (w.setCell a x).heap[b.block]? = some (.cells c t (0, 0)) := by
    by_cases e : b.block = a.block
    · refine ⟨if a.spot.isSome then c else c.setIfInBounds a.off x, t, ?_⟩
      unfold World.setCell
      simp only [Array.getElem?_modify]
      rw [if_pos e.symm, h3]
      rfl
    · exact ⟨c, t, (Below.heap_setCell w a x b.block e).trans h3⟩
  by_cases e : b = a
  · subst e
    refine ⟨x, high_some.2 ⟨h1, World.cell?_setCell_same w b x h2, hblk⟩, .inr ⟨?_, hx⟩⟩
    rw [h] at hy
    injection hy with hy
    subst hy
    exact hu
  · refine ⟨y, high_some.2 ⟨h1, (World.cell?_setCell_other w a b x fun h => e h.symm).trans h2, hblk⟩, .inl rfl⟩
/-- A cell of a number or a text may be written. -/
theorem Mk.scal (m : Mk lo hi w w1) {a : Addr} {u : Value} (h : (High w lo).cell? a = some u) (ha : a.block < hi) (hu : Scal u) : ∃ u', (High w1 lo).cell? a = some u' ∧ Scal u' := by
  obtain ⟨u', h1, h2⟩ := m.cells a u h ha
  refine ⟨u', h1, ?_⟩
  rcases h2 with rfl | ⟨_, h2⟩
  · exact hu
  · exact h2
theorem Mk.slice (m : Mk lo hi w w1) {a : Addr} {A : Option Addr} {n c : Nat} (h : (High w lo).cell? a = some (.slice A n c)) (ha : a.block < hi) : (High w1 lo).cell? a = some (.slice A n c) := by
  obtain ⟨u', h1, h2⟩ := m.cells a _ h ha
  rcases h2 with rfl | ⟨h2, _⟩
  · exact h1
  · exact absurd h2 scal_slice
theorem Mk.own (m : Mk lo hi w w1) {base : Nat} {t : TypeId} {size n : Nat} {v : Value} {xs : List Value} (ho : w.ownsRow base t size v n xs) (hb : hi ≤ base) : w1.ownsRow base t size v n xs := by
  refine ⟨ho.1, ?_⟩
  rcases ho.2 with h0 | ⟨g, cap, cur, e, hg, hh, r⟩
  · exact .inl h0
  · exact .inr ⟨g, cap, cur, e, hg, (m.block g (Array.getElem?_eq_some_iff.1 hh).1 (.inr (by omega))).trans hh, r⟩
theorem Mk.low (m : Mk lo hi w w1) (hl : lo ≤ w.heap.size) : Below lo w w1 := ⟨m.os, m.tape, m.output, m.size, fun b hb => m.block b (by omega) (.inl hb)⟩
end

/-- markTermS marks the terms of a list. -/
def MarkTerms (ks : List Tm) : Prop := ∀ (lo hi : Nat) (A : Option Addr) (c n : Nat) (w0 w : World), KidsAt (High w0 lo) hi A ks → Mk lo hi w0 w → n + 3 * Tm.cntL ks ≤ 100000000 → ks.length ≤ 1048576 →
  Calls Tryz.prog 184 #[.slice A ks.length c, .int .i64 n] w fun e w' => e = .returned (.int .i64 ((n + 3 * Tm.cntL ks : Nat) : Int)) ∧ Mk lo hi w w'
/-- The cells of one kid, where numbers and texts may have been written. -/
theorem kid_cells {lo hi : Nat} {w0 w : World} {A : Option Addr} {ks : List Tm} (h : KidsAt (High w0 lo) hi A ks) (m : Mk lo hi w0 w) {i : Nat} (hi' : i < ks.length) : ∃ ad A' c', A = some ad ∧ (ad.add (i * 4)).block < hi ∧
    (∃ u, (High w lo).cell? (ad.add (i * 4)) = some u ∧ Scal u) ∧ (∃ u, (High w lo).cell? ⟨(ad.add (i * 4)).block, (ad.add (i * 4)).off + 1, none⟩ = some u ∧ Scal u) ∧ (∃ u, (High w lo).cell? ⟨(ad.add (i * 4)).block, (ad.add (i * 4)).off + 2, none⟩ = some u ∧ Scal u) ∧
    (High w lo).cell? ⟨(ad.add (i * 4)).block, (ad.add (i * 4)).off + 3, none⟩ = some (.slice A' ks[i].kids.length c') ∧ KidsAt (High w0 lo) hi A' ks[i].kids := by
  obtain ⟨ad, A', c', e, hb, k0, k1, k2, k3, hk⟩ := h.get hi'
  exact ⟨ad, A', c', e, hb, m.scal k0 hb (scal_int _), m.scal k1 hb (scal_int _), m.scal k2 hb (scal_str _), m.slice k3 hb, hk⟩
theorem high_frozen {w : World} {lo : Nat} {a : Addr} {v : Value} (h : (High w lo).cell? a = some v) : w.frozen? a = false := by
  obtain ⟨c, t, e⟩ := (high_some.1 h).2.2
  simp [World.frozen?, e]
theorem addr_ne (a : Addr) (j : Nat) (hj : 0 < j) : a ≠ ⟨a.block, a.off + j, none⟩ := by
  intro h
  have := congrArg Addr.off h
  simp at this
  omega
theorem addr_ne2 (b o i j : Nat) (hj : i ≠ j) : (⟨b, o + i, none⟩ : Addr) ≠ ⟨b, o + j, none⟩ := by
  intro h
  have := congrArg Addr.off h
  simp at this
  omega

set_option maxHeartbeats 1000000 in
theorem markTerms_of (ks : List Tm) (ih : ∀ i (h : i < ks.length), MarkTerms ks[i].kids) (hb : ∀ i (h : i < ks.length), ks[i].kids.length ≤ 1048576) : MarkTerms ks := by
  intro lo hi A c n w0 w hk m hn hl
  have HI := Lib.hid ih
  have HB := Lib.hid hb
  have HK := Lib.hid hk
  have HM := Lib.hid m
  clear ih hb hk m
  go_enter Tryz.func184, Tryz.ntmps184
  go_wp2_with fail
  go_loopg [1, 5] ks.length (fun l q i wr => ∃ (j p : Nat), j ≤ ks.length ∧ l = ks.length - j ∧ i = .int .i64 j ∧ q = .int .i64 p ∧ p = n + 3 * Tm.cntL (ks.take j) ∧ Mk lo hi w wr)
  case atStart => exact ⟨0, n, by omega, by omega, rfl, rfl, by simp [Tm.cntL], .refl _ _ _⟩
  case round =>
    obtain ⟨j, p, hj, rfl, rfl, rfl, hp, hm⟩ := hrel
    have HP := Lib.hid hp
    clear hp
    by_cases hlt : j < ks.length
    · have hm0 := HM.out.trans hm
      obtain ⟨ad, A', c', e, hbl, ⟨u0, k0, s0⟩, ⟨u1, k1, s1⟩, ⟨u2, k2, s2⟩, k3, hkk⟩ := kid_cells HK.out hm0 hlt
      have hcl := cntL_take hlt
      have hle := cntL_take_le ks (j + 1)
      have hpb : p + 3 + 3 * ks[j].cnt ≤ 100000000 := by have := HP.out; omega
      have HCL := Lib.hid hcl
      have HSUB := Lib.hid (fun w1 (m1 : Mk lo hi w0 w1) q (hq : q + 3 * ks[j].cnt ≤ 100000000) => HI.out j hlt lo hi A' c' q w0 w1 hkk m1 (by rw [← Tm.cnt_kids]; exact hq) (HB.out j hlt))
      rw [← Tm.cnt_kids] at HSUB
      clear hcl
      subst e
      have a0 := high_cell k0
      have f0 := high_frozen k0
      have M0 := Mk.set k0 hbl s0 (scal_int (p : Int))
      obtain ⟨v1, g1, t1⟩ := M0.scal k1 hbl s1
      have a1 := high_cell g1
      have f1 := high_frozen g1
      have M1 := M0.trans (Mk.set g1 hbl t1 (scal_int ((p : Int) + 1)))
      obtain ⟨v2, g2, t2⟩ := M1.scal k2 hbl s2
      have g3 := M1.slice k3 hbl
      have z1 : (0 : Int) ≤ (j : Int) := by omega
      have z2 : (j : Int) < (ks.length : Int) := by omega
      have HM0 := Lib.hid M0
      have HM1 := Lib.hid M1
      have HG2 := Lib.hid g2
      have HG3 := Lib.hid g3
      clear M0 M1 g2 g3 k0 k1 k2 k3 g1
      go_wp2_with fail
      generalize (wr.setCell (ad.add (j * 4)) (.int .i64 (p : Int))).setCell ⟨(ad.add (j * 4)).block, (ad.add (j * 4)).off + 1, none⟩ (.int .i64 ((p : Int) + 1)) = W2 at HM1 HG2 HG3 ⊢
      have e1 : ((p : Int) + 1 + 1) = ((p + 1 + 1 : Nat) : Int) := by omega
      rw [e1]
      clear e1 a0 a1 f0 f1 HM0
      refine (markText_any (p + 1 + 1) _ (by omega)).mono ?_
      rintro e w3 ⟨rfl, hb3⟩
      have M3 : Mk lo hi wr w3 := HM1.out.trans (Mk.below hb3)
      have g2 := high_below (Nat.le_refl _) hb3 _ _ HG2.out
      have g3 := high_below (Nat.le_refl _) hb3 _ _ HG3.out
      have a2 := high_cell g2
      have f2 := high_frozen g2
      have M4 := Mk.set g2 hbl t2 (scal_str (markT (p + 1 + 1)))
      have a3 := high_cell (M4.slice g3 hbl)
      have HM4 := Lib.hid (M3.trans M4)
      clear M3 M4 g2 g3 hb3 HM1 HG2 HG3
      go_wp2_with fail
      have e2 : ((p : Int) + 1 + 1 + 1) = ((p + 3 : Nat) : Int) := by omega
      rw [e2]
      generalize w3.setCell ⟨(ad.add (j * 4)).block, (ad.add (j * 4)).off + 2, none⟩ (.string (markT (p + 1 + 1))) = W4 at HM4 ⊢
      refine (HSUB.out _ (hm0.trans HM4.out) (p + 3) (by omega)).mono ?_
      rintro e w5 ⟨rfl, hm5⟩
      have hm6 := (hm.trans HM4.out).trans hm5
      clear a2 a3 f2
      go_wp2_with fail
      go_roundg (ks.length - (j + 1))
      case measure => omega
      case rel => exact ⟨j + 1, p + 3 + 3 * ks[j].cnt, by omega, rfl, by go_num, rfl, by rw [HCL.out, HP.out]; omega, hm6⟩
    · obtain rfl : j = ks.length := by omega
      go_wp2_with fail
      go_ret
      have e := HP.out
      rw [List.take_length] at e
      exact ⟨ret_int (by rw [e]), hm⟩
theorem markTerms_any (ks : List Tm) (hb : ∀ i (h : i < ks.length), TmB 1048576 ks[i]) : MarkTerms ks := by
  have key : ∀ (n : Nat) (ks : List Tm), SizeOf.sizeOf ks ≤ n → (∀ i (h : i < ks.length), TmB 1048576 ks[i]) → MarkTerms ks := by
    intro n
    induction n with
    | zero => intro ks h; cases ks <;> simp at h
    | succ n ih =>
      intro ks h hb
      refine markTerms_of ks (fun i hi => ih _ ?_ fun j hj => (hb i hi).kid j hj) fun i hi => (hb i hi).fits.2.2.2
      have h1 := List.sizeOf_lt_of_mem (List.getElem_mem hi)
      have h2 : SizeOf.sizeOf ks[i].kids < SizeOf.sizeOf ks[i] := by
        cases ks[i] with
        | mk a b c d => simp [Tm.kids]; omega
      omega
  exact key _ ks (Nat.le_refl _) hb

theorem ins_cells {lo hi : Nat} {w0 w : World} {A : Option Addr} {ins : List Is} (h : InsAt (High w0 lo) hi A ins) (m : Mk lo hi w0 w) {i : Nat} (hi' : i < ins.length) : ∃ ad A' c', A = some ad ∧ (ad.add (i * 7)).block < hi ∧
    (∃ u, (High w lo).cell? (ad.add (i * 7)) = some u ∧ Scal u) ∧ (∃ u, (High w lo).cell? ⟨(ad.add (i * 7)).block, (ad.add (i * 7)).off + 1, none⟩ = some u ∧ Scal u) ∧ (∃ u, (High w lo).cell? ⟨(ad.add (i * 7)).block, (ad.add (i * 7)).off + 2, none⟩ = some u ∧ Scal u) ∧
    (∃ u, (High w lo).cell? ⟨(ad.add (i * 7)).block, (ad.add (i * 7)).off + 3, none⟩ = some u ∧ Scal u) ∧ (∃ u, (High w lo).cell? ⟨(ad.add (i * 7)).block, (ad.add (i * 7)).off + 4, none⟩ = some u ∧ Scal u) ∧
    (High w lo).cell? ⟨(ad.add (i * 7)).block, (ad.add (i * 7)).off + 5, none⟩ = some (.slice A' ins[i].term.kids.length c') ∧ (∃ u, (High w lo).cell? ⟨(ad.add (i * 7)).block, (ad.add (i * 7)).off + 6, none⟩ = some u ∧ Scal u) ∧ KidsAt (High w0 lo) hi A' ins[i].term.kids := by
  obtain ⟨ad, A', c', e, hb, k0, k1, k2, k3, k4, k5, k6, hk⟩ := h.get hi'
  exact ⟨ad, A', c', e, hb, m.scal k0 hb (scal_int _), m.scal k1 hb (scal_int _), m.scal k2 hb (scal_int _), m.scal k3 hb (scal_int _), m.scal k4 hb (scal_str _), m.slice k5 hb, m.scal k6 hb (scal_int _), hk⟩

set_option maxRecDepth 100000 in
set_option maxHeartbeats 2000000 in
theorem markInsS_any (lo hi : Nat) (A : Option Addr) (c n : Nat) (ins : List Is) (w0 w : World) (hk : InsAt (High w0 lo) hi A ins) (m : Mk lo hi w0 w) (hn : n + 6 * insCnt ins ≤ 100000000) (hl : ins.length ≤ 1048576) (hb : ∀ x ∈ ins, IsB 1048576 x) :
    Calls Tryz.prog 143 #[.slice A ins.length c, .int .i64 n] w fun e w' => ∃ q : Nat, e = .returned (.int .i64 q) ∧ q ≤ n + 6 * insCnt ins ∧ Mk lo hi w w' := by
  have HB := Lib.hid hb
  have HK := Lib.hid hk
  have HM := Lib.hid m
  clear hb hk m
  go_enter Tryz.func143, Tryz.ntmps143
  go_wp2_with fail
  go_loopg [1, 5] ins.length (fun l q i wr => ∃ (j p : Nat), j ≤ ins.length ∧ l = ins.length - j ∧ i = .int .i64 j ∧ q = .int .i64 p ∧ p ≤ n + 6 * insCnt (ins.take j) ∧ Mk lo hi w wr)
  case atStart => exact ⟨0, n, by omega, by omega, rfl, rfl, by omega, .refl _ _ _⟩
  case round =>
    obtain ⟨j, p, hj, rfl, rfl, rfl, hp, hm⟩ := hrel
    have HP := Lib.hid hp
    clear hp
    by_cases hlt : j < ins.length
    · have hm0 := HM.out.trans hm
      obtain ⟨ad, A', c', e, hbl, ⟨u0, k0, s0⟩, ⟨u1, k1, s1⟩, ⟨u2, k2, s2⟩, ⟨u3, k3, s3⟩, ⟨u4, k4, s4⟩, k5, ⟨u6, k6, s6⟩, hkk⟩ := ins_cells HK.out hm0 hlt
      have hcl := insCnt_take hlt
      have hle := insCnt_take_le ins (j + 1)
      have hpb : p + 6 + 6 * ins[j].term.cnt ≤ 100000000 := by have := HP.out; omega
      have HCL := Lib.hid (show p + 6 + 3 * ins[j].term.cnt ≤ n + 6 * insCnt (ins.take (j + 1)) from by have := HP.out; omega)
      have hTB := (HB.out _ (List.getElem_mem hlt)).term
      have HSUB := Lib.hid (fun w1 (m1 : Mk lo hi w0 w1) q (hq : q + 3 * ins[j].term.cnt ≤ 100000000) => markTerms_any ins[j].term.kids (fun i h => hTB.kid i h) lo hi A' c' q w0 w1 hkk m1 (by rw [← Tm.cnt_kids]; exact hq) hTB.fits.2.2.2)
      rw [← Tm.cnt_kids] at HSUB
      clear hcl hTB
      subst e
      have a0 := high_cell k0
      have f0 := high_frozen k0
      have M0 := Mk.set k0 hbl s0 (scal_int (p : Int))
      obtain ⟨v1, g1, t1⟩ := M0.scal k1 hbl s1
      have a1 := high_cell g1
      have f1 := high_frozen g1
      have M1 := M0.trans (Mk.set g1 hbl t1 (scal_int ((p : Int) + 1)))
      obtain ⟨v2, g2, t2⟩ := M1.scal k2 hbl s2
      have a2 := high_cell g2
      have f2 := high_frozen g2
      have M2 := M1.trans (Mk.set g2 hbl t2 (scal_int ((p : Int) + 1 + 1)))
      obtain ⟨v3, g3, t3⟩ := M2.scal k3 hbl s3
      have a3 := high_cell g3
      have f3 := high_frozen g3
      have M3 := M2.trans (Mk.set g3 hbl t3 (scal_int ((p : Int) + 1 + 1 + 1)))
      obtain ⟨v4, g4, t4⟩ := M3.scal k4 hbl s4
      have g5 := M3.slice k5 hbl
      obtain ⟨v6, g6, t6⟩ := M3.scal k6 hbl s6
      have z1 : (0 : Int) ≤ (j : Int) := by omega
      have z2 : (j : Int) < (ins.length : Int) := by omega
      have HM3 := Lib.hid M3
      have HG4 := Lib.hid g4
      have HG5 := Lib.hid g5
      have HG6 := Lib.hid g6
      clear M0 M1 M2 M3 g2 g3 g4 g5 g6 k0 k1 k2 k3 k4 k5 k6 g1
      go_wp2_with fail
      generalize (((wr.setCell (ad.add (j * 7)) (.int .i64 (p : Int))).setCell ⟨(ad.add (j * 7)).block, (ad.add (j * 7)).off + 1, none⟩ (.int .i64 ((p : Int) + 1))).setCell ⟨(ad.add (j * 7)).block, (ad.add (j * 7)).off + 2, none⟩ (.int .i64 ((p : Int) + 1 + 1))).setCell ⟨(ad.add (j * 7)).block, (ad.add (j * 7)).off + 3, none⟩ (.int .i64 ((p : Int) + 1 + 1 + 1)) = W2 at HM3 HG4 HG5 HG6 ⊢
      have e1 : ((p : Int) + 1 + 1 + 1 + 1) = ((p + 4 : Nat) : Int) := by omega
      rw [e1]
      clear e1 a0 a1 a2 a3 f0 f1 f2 f3
      refine (markText_any (p + 4) _ (by omega)).mono ?_
      rintro e w3 ⟨rfl, hb3⟩
      have M4 : Mk lo hi wr w3 := HM3.out.trans (Mk.below hb3)
      have g4 := high_below (Nat.le_refl _) hb3 _ _ HG4.out
      have g5 := high_below (Nat.le_refl _) hb3 _ _ HG5.out
      have g6 := high_below (Nat.le_refl _) hb3 _ _ HG6.out
      have a4 := high_cell g4
      have f4 := high_frozen g4
      have M5 := Mk.set g4 hbl t4 (scal_str (markT (p + 4)))
      have a5 := high_cell (M5.slice g5 hbl)
      obtain ⟨x6, g7, t7⟩ := M5.scal g6 hbl t6
      have HG7 := Lib.hid g7
      have HM5 := Lib.hid (M4.trans M5)
      clear M4 M5 g4 g5 g6 g7 hb3 HM3 HG4 HG5 HG6
      go_wp2_with fail
      have e2 : ((p : Int) + 4 + 1) = ((p + 5 : Nat) : Int) := by omega
      rw [e2]
      generalize w3.setCell ⟨(ad.add (j * 7)).block, (ad.add (j * 7)).off + 4, none⟩ (.string (markT (p + 4))) = W4 at HM5 HG7 ⊢
      refine (HSUB.out _ (hm0.trans HM5.out) (p + 5) (by omega)).mono ?_
      rintro e w5 ⟨rfl, hm5⟩
      obtain ⟨y6, g8, t8⟩ := hm5.scal HG7.out hbl t7
      have a6 := high_cell g8
      have f6 := high_frozen g8
      generalize hq : p + 5 + 3 * ins[j].term.cnt = q
      have hqb : q + 1 ≤ 100000000 := by omega
      have HQ := Lib.hid hq
      clear hq
      have hm6 := ((hm.trans HM5.out).trans hm5).trans (Mk.set g8 hbl t8 (scal_int (q : Int)))
      clear a4 a5 f4 g8 HM5 HG7
      go_wp2_with fail
      go_roundg (ins.length - (j + 1))
      case measure => omega
      case rel => exact ⟨j + 1, q + 1, by omega, rfl, by go_num, by go_num, by have := HCL.out; have := HQ.out; omega, hm6⟩
    · obtain rfl : j = ins.length := by omega
      go_wp2_with fail
      go_ret
      have e := HP.out
      rw [List.take_length] at e
      exact ⟨p, rfl, e, hm⟩

theorem markIntS_m (lo hi : Nat) (A : Option Addr) (c n : Nat) (xs : List Int) (w0 w : World) (hk : Rd (High w0 lo) hi A (xs.map iv)) (m : Mk lo hi w0 w) (hn : n + xs.length ≤ 100000000) :
    Calls Tryz.prog 71 #[.slice A xs.length c, .int .i64 n] w fun e w' => e = .returned (.int .i64 ((n + xs.length : Nat) : Int)) ∧ Mk lo hi w w' := by
  have HK := Lib.hid hk
  have HM := Lib.hid m
  clear hk m
  go_enter Tryz.func71, Tryz.ntmps71
  go_wp2_with fail
  go_loopg [1, 5] xs.length (fun l q i wr => ∃ (j : Nat), j ≤ xs.length ∧ l = xs.length - j ∧ i = .int .i64 j ∧ q = .int .i64 ((n + j : Nat) : Int) ∧ Mk lo hi w wr)
  case atStart => exact ⟨0, by omega, by omega, rfl, rfl, .refl _ _ _⟩
  case round =>
    obtain ⟨j, hj, rfl, rfl, rfl, hm⟩ := hrel
    by_cases hlt : j < xs.length
    · obtain ⟨ad, rfl, hbl, k0⟩ := HK.out.int hlt
      have hbl' : (ad.add j).block < hi := by rw [block_of_add]; exact hbl
      obtain ⟨u, g0, t0⟩ := (HM.out.trans hm).scal k0 hbl' (scal_int _)
      have a0 := high_cell g0
      have f0 := high_frozen g0
      have hm1 := hm.trans (Mk.set g0 hbl' t0 (scal_int ((n + j : Nat) : Int)))
      have HM1 := Lib.hid hm1
      clear g0 k0 hm1
      generalize hq : n + j = q at HM1 ⊢
      have HQ := Lib.hid hq
      have hqb : q + 1 ≤ 100000000 := by omega
      clear hq
      have z1 : (0 : Int) ≤ (j : Int) := by omega
      have z2 : (j : Int) < (xs.length : Int) := by omega
      go_wp2_with fail
      go_roundg (xs.length - (j + 1))
      case measure => omega
      case rel => exact ⟨j + 1, by omega, rfl, by go_num, by rw [← Nat.add_assoc, HQ.out]; go_num, HM1.out⟩
    · obtain rfl : j = xs.length := by omega
      go_wp2_with fail
      go_ret
      exact ⟨rfl, hm⟩

theorem markStringS_m (lo hi : Nat) (A : Option Addr) (c n : Nat) (xs : List ByteArray) (w0 w : World) (hk : Rd (High w0 lo) hi A (xs.map sv)) (m : Mk lo hi w0 w) (hn : n + xs.length ≤ 100000000) :
    Calls Tryz.prog 142 #[.slice A xs.length c, .int .i64 n] w fun e w' => e = .returned (.int .i64 ((n + xs.length : Nat) : Int)) ∧ Mk lo hi w w' := by
  have HK := Lib.hid hk
  have HM := Lib.hid m
  clear hk m
  go_enter Tryz.func142, Tryz.ntmps142
  go_wp2_with fail
  go_loopg [1, 5] xs.length (fun l q i wr => ∃ (j : Nat), j ≤ xs.length ∧ l = xs.length - j ∧ i = .int .i64 j ∧ q = .int .i64 ((n + j : Nat) : Int) ∧ Mk lo hi w wr)
  case atStart => exact ⟨0, by omega, by omega, rfl, rfl, .refl _ _ _⟩
  case round =>
    obtain ⟨j, hj, rfl, rfl, rfl, hm⟩ := hrel
    by_cases hlt : j < xs.length
    · obtain ⟨ad, rfl, hbl, k0⟩ := HK.out.str hlt
      have hbl' : (ad.add j).block < hi := by rw [block_of_add]; exact hbl
      obtain ⟨u, g0, t0⟩ := (HM.out.trans hm).scal k0 hbl' (scal_str _)
      generalize hq : n + j = q
      have HQ := Lib.hid hq
      have hqb : q + 1 ≤ 100000000 := by omega
      clear hq
      have z1 : (0 : Int) ≤ (j : Int) := by omega
      have z2 : (j : Int) < (xs.length : Int) := by omega
      go_wp2_with fail
      refine (markText_any q _ (by omega)).mono ?_
      rintro e w3 ⟨rfl, hb3⟩
      have g1 := high_below (Nat.le_refl _) hb3 _ _ g0
      have a0 := high_cell g1
      have f0 := high_frozen g1
      have HM1 := Lib.hid ((hm.trans (Mk.below hb3)).trans (Mk.set g1 hbl' t0 (scal_str (markT q))))
      clear g0 g1 k0
      go_wp2_with fail
      go_roundg (xs.length - (j + 1))
      case measure => omega
      case rel => exact ⟨j + 1, by omega, rfl, by go_num, by rw [← Nat.add_assoc, HQ.out]; go_num, HM1.out⟩
    · obtain rfl : j = xs.length := by omega
      go_wp2_with fail
      go_ret
      exact ⟨rfl, hm⟩
end Go.Proofs.YtkgoajnnkimkaaaGreat
