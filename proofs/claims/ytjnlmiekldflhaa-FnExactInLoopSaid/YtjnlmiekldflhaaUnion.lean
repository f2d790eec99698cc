/- Contracts of unionOf, isProc, mainProc, allProcs. -/
import Derived.Test.YtjnlmiekldflhaaLive
set_option linter.unusedSimpArgs false
set_option linter.unusedVariables false
namespace Go.Proofs.Ytjnlmiekldflhaa
open Go.ChangeShapes Go.WideShapes Go.ChangeAt Go.RowKit

theorem foldl_or_lt {ss : List Nat} {m : Nat} (hs : ∀ s ∈ ss, s < 2 ^ m) (which : List Nat) : ∀ s, s < 2 ^ m → which.foldl (fun s i => s ||| (ss[i]?).getD 0) s < 2 ^ m := by
  induction which with
  | nil => intro s h; exact h
  | cons i r ih =>
    intro s h
    rw [List.foldl_cons]
    refine ih _ (Nat.or_lt_two_pow h ?_)
    cases e : ss[i]? with
    | none => exact Nat.two_pow_pos m
    | some x => exact hs x (List.mem_of_getElem? e)
theorem unionN_lt {ss : List Nat} {m : Nat} (hs : ∀ s ∈ ss, s < 2 ^ m) (which : List Nat) : unionN ss which < 2 ^ m := foldl_or_lt hs which 0 (Nat.two_pow_pos m)
theorem unionN_snoc (ss which : List Nat) (i : Nat) : unionN ss (which ++ [i]) = unionN ss which ||| (ss[i]?).getD 0 := by simp [unionN]
theorem mem_bitsTo {s k i : Nat} : i ∈ bitsTo s k ↔ i < k ∧ s.testBit i = true := by simp [bitsTo]
theorem bitsL_nv (s : Nat) : (bitsL s).map iv = nv (bitsTo s 62) := rfl
theorem bitsL_len (s : Nat) : (bitsL s).length = (bitsTo s 62).length := by simp [bitsL]
theorem bitsOf_nats (s : Nat) (w : World) (hs : s < 4611686018427387904) : Calls Try.prog 94 #[.int .i64 s] w (NewNats w (bitsTo s 62)) := by
  have := bitsOf_any s w hs
  rw [bitsL_nv, bitsL_len] at this
  exact this

theorem unionOf_any {B : Nat} (A : Option Addr) (c : Nat) (ss : List Nat) (s : Nat) (w : World) (h : Rd w B A (nv ss)) (hn : ss.length ≤ 60) (hss : ∀ x ∈ ss, x < 2 ^ 60) (hs : s < 2 ^ ss.length) :
    Calls Try.prog 134 #[.slice A ss.length c, .int .i64 s] w fun e w' => e = .returned (.int .i64 (unionN ss (bitsTo s 62) : Nat)) ∧ Below w.heap.size w w' := by
  have h0 := h.full
  have hs60 : s < 4611686018427387904 := Nat.lt_of_lt_of_le hs (Nat.le_trans (Nat.pow_le_pow_right (by omega) hn : 2 ^ ss.length ≤ 2 ^ 60) (by decide))
  have HB := Lib.hid (fun W => bitsOf_nats s W hs60)
  have HI := Lib.hid (show ∀ i ∈ bitsTo s 62, i < ss.length from fun i hi => lt_of_testBit hs (mem_bitsTo.1 hi).2)
  have HU := Lib.hid (fun l => unionN_lt hss l)
  have HSS := Lib.hid hss
  have hl62 := bitsTo_len s 62
  clear h hss hs
  generalize bitsTo s 62 = bs at *
  go_enter Try.func134, Try.ntmps134
  go_wp2_with fail
  refine (HB.out _).mono ?_
  rintro e w1 ⟨Ab, cb, rfl, hob, hb1⟩
  have hrb := own_rd hob
  clear hob
  go_wp2_with fail
  go_loopg [5, 11] bs.length (fun l t i wr => ∃ j : Nat, j ≤ bs.length ∧ l = bs.length - j ∧ i = .int .i64 j ∧ t = .int .i64 (unionN ss (bs.take j) : Nat) ∧ Below w1.heap.size w1 wr)
  case atStart => exact ⟨0, by omega, by omega, rfl, rfl, Below.refl _ _⟩
  case round =>
    obtain ⟨j, hj, rfl, rfl, rfl, hb⟩ := hrel
    by_cases hlt : j < bs.length
    · obtain ⟨ad, rfl, _, hc⟩ := (hrb.below hb).nat hlt
      have hil := HI.out bs[j] (List.getElem_mem hlt)
      have HT := Lib.hid (show unionN ss (bs.take (j + 1)) = unionN ss (bs.take j) ||| (ss[bs[j]]?).getD 0 from by rw [List.take_succ_eq_append_getElem hlt, unionN_snoc])
      generalize bs[j] = i at *
      obtain ⟨ad2, rfl, _, hc2⟩ := (h0.below (hb1.trans (hb.mono hb1.size))).nat hil
      have hx := HSS.out ss[i] (List.getElem_mem hil)
      have hu := HU.out (bs.take j)
      have HT2 := Lib.hid (show (ss[i]?).getD 0 = ss[i] from by rw [List.getElem?_eq_getElem hil]; rfl)
      generalize ss[i] = y at *
      have z1 : (0 : Int) ≤ (i : Int) := by omega
      have z2 : (i : Int) < (ss.length : Int) := by omega
      generalize unionN ss (bs.take j) = t at *
      have e1 := i64_or_nat t y (by omega) (by omega)
      go_wp2_with fail
      go_roundg (bs.length - (j + 1))
      case measure => omega
      case rel => exact ⟨j + 1, by omega, rfl, by go_num, by rw [HT.out, HT2.out], hb⟩
    · obtain rfl : j = bs.length := by omega
      go_wp2_with fail
      go_ret
      exact ⟨ret_int (by rw [List.take_length]), below_trans' hb1 hb⟩

theorem isProc_any (g : Nat) (v : CV) (k : Cd) (p : Int) (w : World) (hg : KAt w g v k) (hp : k.procs.length ≤ 1048576) :
    Calls Try.prog 80 #[.pointer (some ⟨g, 0, none⟩), .int .i64 p] w fun e w' => e = .returned (.bool (decide (0 ≤ p) && decide (p < k.procs.length))) ∧ w = w' := by
  obtain ⟨c0, c1, c2, c3, c4⟩ := hg
  by_cases h : 0 ≤ p
  · go_enter Try.func80, Try.ntmps80
    go_wp2_with fail
    go_ret
    exact ⟨ret_bool (by simp [h]), rfl⟩
  · go_enter Try.func80, Try.ntmps80
    go_wp2_with fail
    go_ret
    exact ⟨ret_bool (by simp; omega), rfl⟩

theorem mainN_place {k : Cd} (hr : Right k) : placeOf k.procs mainS = (mainN k : Int) := by
  unfold placeOf mainN
  rw [if_pos hr.main]
theorem mainProc_any {B : Nat} (g : Nat) (v : CV) (k : Cd) (w : World) (hr : Right k) (hk : CodeAt w B v k) (hg : KAt w g v k) :
    Calls Try.prog 135 #[.pointer (some ⟨g, 0, none⟩)] w fun e w' => e = .returned (.int .i64 (mainN k : Nat)) ∧ Below w.heap.size w w' := by
  obtain ⟨c0, c1, c2, c3, c4⟩ := hg
  have hpl := hr.procs
  have HM := Lib.hid (mainN_place hr)
  have HI := Lib.hid (fun W (h : Rd W w.heap.size v.pA (k.procs.map sv)) => sIndex_any v.pA v.pc k.procs mainS W h (by omega))
  have hp := hk.full.p
  clear hr hk
  go_enter Try.func135, Try.ntmps135
  go_wp2_with fail
  refine (HI.out _ hp).mono ?_
  rintro e w1 ⟨rfl, rfl⟩
  rw [HM.out]
  go_wp2_with fail
  go_ret
  exact ⟨rfl, Below.refl _ _⟩
end Go.Proofs.Ytjnlmiekldflhaa
