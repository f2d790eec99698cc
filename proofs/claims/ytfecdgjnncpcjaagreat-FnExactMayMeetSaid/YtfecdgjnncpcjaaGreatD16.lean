/- Contracts of rootsAt, l14RootsAt, singles, apart; RootsAt of the program and of the reference, Beside of the program. -/
import Derived.Test.YtfecdgjnncpcjaaGreatD15
set_option linter.unusedSimpArgs false
set_option linter.unusedVariables false
namespace Go.Proofs.YtfecdgjnncpcjaaGreat
open Go.ChangeShapes Go.WideShapes Go.ChangeAt Go.RowKit

open Classical in
/-- The numbers of a list that have a property, as bits. -/
noncomputable def orSel (P : Nat → Prop) (l : List Nat) : Nat := l.foldl (fun s i => if P i then s ||| 2 ^ i else s) 0
theorem orSel_yes {P : Nat → Prop} {i : Nat} (h : P i) (l : List Nat) : orSel P (l ++ [i]) = orSel P l ||| 2 ^ i := by simp [orSel, h]
theorem orSel_no {P : Nat → Prop} {i : Nat} (h : ¬ P i) (l : List Nat) : orSel P (l ++ [i]) = orSel P l := by simp [orSel, h]
theorem orSel_bit {P : Nat → Prop} {q : Nat} : ∀ (l : List Nat) (n : Nat), l.length ≤ n → ((orSel P l).testBit q = true ↔ q ∈ l ∧ P q) := by
  intro l n
  induction n generalizing l with
  | zero =>
    intro h
    obtain rfl : l = [] := List.eq_nil_of_length_eq_zero (by omega)
    simp [orSel]
  | succ n ih =>
    intro h
    rcases nil_or_snoc l with rfl | ⟨r, i, rfl⟩
    · simp [orSel]
    · have ih := ih r (by simp at h; omega)
      by_cases hp : P i
      · rw [orSel_yes hp, Nat.testBit_or, Bool.or_eq_true, ih, Nat.testBit_two_pow, decide_eq_true_iff, List.mem_append, List.mem_singleton]
        constructor
        · rintro (h1 | h1)
          · exact ⟨.inl h1.1, h1.2⟩
          · subst h1; exact ⟨.inr rfl, hp⟩
        · rintro ⟨h1 | h1, h2⟩
          · exact .inl ⟨h1, h2⟩
          · exact .inr h1.symm
      · rw [orSel_no hp, ih, List.mem_append, List.mem_singleton]
        exact ⟨fun h1 => ⟨.inl h1.1, h1.2⟩, fun ⟨h1, h2⟩ => ⟨h1.resolve_right fun e => hp (by rw [← e]; exact h2), h2⟩⟩
theorem orSel_lt {P : Nat → Prop} {l : List Nat} {m : Nat} (h : ∀ i ∈ l, i < m) : orSel P l < 2 ^ m :=
  lt_two_pow_of_bits fun i hi => h i ((orSel_bit l _ (Nat.le_refl _)).1 hi).1
theorem atN_sel {k : Cd} {a : Nat} (hl : LiveA k a) : orSel (fun r => FromP k r (procN k a)) (listN k.procs.length (RootP k)) = atN k a := by
  refine eq_setN (orSel_lt fun i hi => (mem_listN.1 hi).1) fun i hi => ?_
  rw [orSel_bit _ _ (Nat.le_refl _), mem_listN]
  exact ⟨fun h => ⟨hl, h.1.2, h.2⟩, fun h => ⟨⟨hi, h.2.1⟩, h.2.2⟩⟩
theorem singN_sel (k : Cd) : orSel (SingR k) (listN k.procs.length (RootP k)) = singN k := by
  refine eq_setN (orSel_lt fun i hi => (mem_listN.1 hi).1) fun i hi => ?_
  rw [orSel_bit _ _ (Nat.le_refl _), mem_listN]
  exact ⟨fun h => h.2, fun h => ⟨⟨hi, h.1⟩, h⟩⟩
theorem atN_lt (k : Cd) (a : Nat) : atN k a < 2 ^ k.procs.length := setN_lt _ _

theorem rootsAt_no (g : Nat) (v : CV) (k : Cd) (x : Int) (w : World) (hg : KAt w g v k) (hx : (decide (0 ≤ x) && decide (x < k.ins.length)) = false) :
    Calls Tryz.prog 76 #[.pointer (some ⟨g, 0, none⟩), .int .i64 x] w fun e w' => e = .returned (.int .i64 0) ∧ Below w.heap.size w w' := by
  obtain ⟨c0, c1, c2, c3, c4⟩ := hg
  have HP := isPlace_any v k x w
  rw [hx] at HP
  have HP := Lib.hid HP
  clear hx
  go_enter Tryz.func76, Tryz.ntmps76
  go_wp2_with fail
  refine HP.out.mono ?_
  rintro e w1 ⟨rfl, hb1⟩
  go_wp2_with fail
  go_ret
  exact ⟨rfl, hb1⟩
set_option maxRecDepth 100000 in
set_option maxHeartbeats 4000000 in
theorem rootsAt_any {B : Nat} (g : Nat) (v : CV) (k : Cd) (a : Nat) (w : World) (hr : Right k) (hW : WAt w B g v k) (ha : a < k.ins.length) :
    Calls Tryz.prog 76 #[.pointer (some ⟨g, 0, none⟩), .int .i64 a] w fun e w' => e = .returned (.int .i64 (atN k a : Nat)) ∧ Below w.heap.size w w' := by
  have hWf := hW.full
  have hpl := hr.procs
  have hins := hr.ins
  have HP := isPlace_any v k a w
  rw [show (decide (0 ≤ ((a : Nat) : Int)) && decide (((a : Nat) : Int) < k.ins.length)) = true from by simp; exact ha] at HP
  have HP := Lib.hid HP
  obtain ⟨c0, c1, c2, c3, c4⟩ := hWf.kat
  obtain ⟨Al, cl, h5, hrl⟩ := hWf.live
  have HKT := Lib.hid (fun W (hb : Below w.heap.size w W) => hWf.kat.to hb)
  have y1 : (0 : Int) ≤ (a : Int) := by omega
  have y2 : (a : Int) < (k.ins.length : Int) := by omega
  by_cases hlv : LiveA k a
  · have HAT := Lib.hid (atN_sel hlv)
    have HB := bitsOf_nats (rootsN k) w (two60 hr (setN_lt _ _))
    have HBB := Lib.hid (fun W => (show Calls Tryz.prog 94 #[.int .i64 (rootsN k : Nat)] W (NewNats W (listN k.procs.length (RootP k))) from by
      have HB := bitsOf_nats (rootsN k) W (two60 hr (setN_lt _ _))
      rw [show bitsTo (rootsN k) 62 = listN k.procs.length (RootP k) from bitsTo_setN (by omega)] at HB
      exact HB))
    clear HB
    have HML := Lib.hid (show ∀ i ∈ listN k.procs.length (RootP k), i < k.procs.length from fun i hi => (mem_listN.1 hi).1)
    have HPI := Lib.hid (fun W (hb : Below w.heap.size w W) => procIn_any v k a W hr ((hWf.below hb).code) ha)
    have HFB := Lib.hid (fun r W => hasBit_any (fromT k r) (procN k a) W (by have := two60 hr (setN_lt k.procs.length (FromP k r)); unfold fromT; omega) (by have := (hr.proc a ha).1; omega))
    have HFT := Lib.hid (show ∀ r, (fromT k r).testBit (procN k a) = true ↔ FromP k r (procN k a) from fun r => by
      unfold fromT
      rw [testBit_setN_true]
      exact ⟨fun h => h.2, fun h => ⟨(hr.proc a ha).1, h⟩⟩)
    have HFG := Lib.hid (fun r (hrl : r < k.procs.length) => hWf.frm.get hrl)
    have h9 := hWf.roots
    have hbl := listN_len k.procs.length (RootP k)
    have HLV := Lib.hid hlv
    clear hr hW hlv
    generalize rootsN k = rn at *
    generalize hls : listN k.procs.length (RootP k) = ls at *
    have HSL := Lib.hid (show ∀ l : List Nat, (∀ i ∈ l, i < k.procs.length) → orSel (fun r => FromP k r (procN k a)) l < 2 ^ k.procs.length from fun l h => orSel_lt h)
    obtain ⟨adl, rfl, _, hcl⟩ := hrl.mark (j := a) (by rw [markL_len]; exact ha)
    rw [mkd_markL_pos ha HLV.out] at hcl
    go_enter Tryz.func76, Tryz.ntmps76
    go_wp2_with fail
    refine HP.out.mono ?_
    rintro e w1 ⟨rfl, hb1⟩
    have h5' := cell_below hb1 h5
    have hcl' := cell_below hb1 hcl
    have h9' := cell_below hb1 h9
    clear c0 c1 c2 c3 c4 h5 hcl h9 hrl
    go_wp2_with fail
    refine (HBB.out _).mono ?_
    rintro e w2 ⟨Ab, cb, rfl, hob, hb2⟩
    have hb02 := below_trans' hb1 hb2
    have hrb := own_rd hob
    clear hob h5' hcl' h9'
    go_wp2_with fail
    go_loopg [5, 31] ls.length (fun l s i wr => ∃ j : Nat, j ≤ ls.length ∧ l = ls.length - j ∧ i = .int .i64 j ∧ s = .int .i64 (orSel (fun r => FromP k r (procN k a)) (ls.take j) : Nat) ∧ Below w2.heap.size w2 wr)
    case atStart => exact ⟨0, by omega, by omega, rfl, rfl, Below.refl _ _⟩
    case round =>
      obtain ⟨j, hj, rfl, rfl, rfl, hb⟩ := hrel
      by_cases hlt : j < ls.length
      · obtain ⟨ad, rfl, _, hc⟩ := (hrb.below hb).nat hlt
        have hil := HML.out ls[j] (List.getElem_mem hlt)
        have HY := Lib.hid (fun (h : FromP k ls[j] (procN k a)) => (show orSel (fun r => FromP k r (procN k a)) (ls.take (j + 1)) = _ from by rw [List.take_succ_eq_append_getElem hlt, orSel_yes (P := fun r => FromP k r (procN k a)) h]))
        have HN := Lib.hid (fun (h : ¬ FromP k ls[j] (procN k a)) => (show orSel (fun r => FromP k r (procN k a)) (ls.take (j + 1)) = _ from by rw [List.take_succ_eq_append_getElem hlt, orSel_no (P := fun r => FromP k r (procN k a)) h]))
        have hsl := HSL.out (ls.take j) fun i hi => HML.out i (List.mem_of_mem_take hi)
        have h256 : 2 ^ k.procs.length ≤ 2 ^ 8 := Nat.pow_le_pow_right (by omega) hpl
        generalize ls[j] = r at *
        generalize orSel (fun r => FromP k r (procN k a)) (ls.take j) = s at *
        have hb0r := below_trans' hb02 hb
        obtain ⟨c0, c1, c2, c3, c4⟩ := HKT.out _ hb0r
        obtain ⟨ad8, c8, d8, hc8⟩ := HFG.out r hil
        have d8 := cell_below hb0r d8
        have hc8 := cell_below hb0r hc8
        have HFBr := Lib.hid (HFB.out r)
        have HFTr := Lib.hid (HFT.out r)
        generalize fromT k r = fr at *
        have z1 : (0 : Int) ≤ (r : Int) := by omega
        have z2 : (r : Int) < (k.procs.length : Int) := by omega
        by_cases hfr : FromP k r (procN k a)
        · have HBT := HFBr.out
          rw [HFTr.out.2 hfr] at HBT
          have HBT := Lib.hid HBT
          have HT := Lib.hid (HY.out hfr)
          have HSH := Lib.hid (show bits .or .i64 (s : Int) (wrap64 ((2 : Int) ^ r)) = ((s ||| 2 ^ r : Nat) : Int) from by rw [shl_one _ (by omega), i64_or_nat _ _ (by omega) (two_pow_lt _ (by omega))])
          clear hfr
          go_wp2_with fail
          refine wp_region_held_drew (S := fun w' => Below wr.heap.size wr w') (by kernel_rfl) ((Below.refl _ _).drew) (fun hHeld => ?_)
          first | (refine hand_skip (i := 0) rfl (by kernel_rfl) (by kernel_rfl) (by kernel_rfl) (fun _ _ _ h => h) (by rfl) (by assumption) ?_) | (refine hand_run (i := 0) (v := ?_) rfl (by kernel_rfl) (by kernel_rfl) (by kernel_rfl) (fun _ _ _ h => h) (by rfl) ?_ (by assumption) ?_; rotate_left; (intro W hW; have f0 := cell_below hW c0; have f1 := cell_below hW c1; have f2 := cell_below hW c2; have f3 := cell_below hW c3; have f4 := cell_below hW c4; have f5 := cell_below hW d8; have f6 := cell_below hW hc8; first | (go_simp; done) | (go_simp; with_reducible rfl)))
          (try simp only [Act.put, List.setIfInBounds_toArray, List.set_cons_zero, List.set_cons_succ])
          first | (refine hand_skip (i := 1) rfl (by kernel_rfl) (by kernel_rfl) (by kernel_rfl) (fun _ _ _ h => h) (by rfl) (by assumption) ?_) | (refine hand_run (i := 1) (v := ?_) rfl (by kernel_rfl) (by kernel_rfl) (by kernel_rfl) (fun _ _ _ h => h) (by rfl) ?_ (by assumption) ?_; rotate_left; (intro W hW; have f0 := cell_below hW c0; have f1 := cell_below hW c1; have f2 := cell_below hW c2; have f3 := cell_below hW c3; have f4 := cell_below hW c4; have f5 := cell_below hW d8; have f6 := cell_below hW hc8; first | (go_simp; done) | (go_simp; with_reducible rfl)))
          (try simp only [Act.put, List.setIfInBounds_toArray, List.set_cons_zero, List.set_cons_succ])
          first | (refine hand_skip (i := 2) rfl (by kernel_rfl) (by kernel_rfl) (by kernel_rfl) (fun _ _ _ h => h) (by rfl) (by assumption) ?_) | (refine hand_run (i := 2) (v := ?_) rfl (by kernel_rfl) (by kernel_rfl) (by kernel_rfl) (fun _ _ _ h => h) (by rfl) ?_ (by assumption) ?_; rotate_left; (intro W hW; have f0 := cell_below hW c0; have f1 := cell_below hW c1; have f2 := cell_below hW c2; have f3 := cell_below hW c3; have f4 := cell_below hW c4; have f5 := cell_below hW d8; have f6 := cell_below hW hc8; first | (go_simp; done) | (go_simp; with_reducible rfl)))
          (try simp only [Act.put, List.setIfInBounds_toArray, List.set_cons_zero, List.set_cons_succ])
          first | (refine hand_skip (i := 3) rfl (by kernel_rfl) (by kernel_rfl) (by kernel_rfl) (fun _ _ _ h => h) (by rfl) (by assumption) ?_) | (refine hand_run (i := 3) (v := ?_) rfl (by kernel_rfl) (by kernel_rfl) (by kernel_rfl) (fun _ _ _ h => h) (by rfl) ?_ (by assumption) ?_; rotate_left; (intro W hW; have f0 := cell_below hW c0; have f1 := cell_below hW c1; have f2 := cell_below hW c2; have f3 := cell_below hW c3; have f4 := cell_below hW c4; have f5 := cell_below hW d8; have f6 := cell_below hW hc8; first | (go_simp; done) | (go_simp; with_reducible rfl)))
          (try simp only [Act.put, List.setIfInBounds_toArray, List.set_cons_zero, List.set_cons_succ])
          first | (refine hand_skip (i := 4) rfl (by kernel_rfl) (by kernel_rfl) (by kernel_rfl) (fun _ _ _ h => h) (by rfl) (by assumption) ?_) | (refine hand_run (i := 4) (v := ?_) rfl (by kernel_rfl) (by kernel_rfl) (by kernel_rfl) (fun _ _ _ h => h) (by rfl) ?_ (by assumption) ?_; rotate_left; (intro W hW; have f0 := cell_below hW c0; have f1 := cell_below hW c1; have f2 := cell_below hW c2; have f3 := cell_below hW c3; have f4 := cell_below hW c4; have f5 := cell_below hW d8; have f6 := cell_below hW hc8; first | (go_simp; done) | (go_simp; with_reducible rfl)))
          (try simp only [Act.put, List.setIfInBounds_toArray, List.set_cons_zero, List.set_cons_succ])
          first | (refine hand_skip (i := 5) rfl (by kernel_rfl) (by kernel_rfl) (by kernel_rfl) (fun _ _ _ h => h) (by rfl) (by assumption) ?_) | (refine hand_run (i := 5) (v := ?_) rfl (by kernel_rfl) (by kernel_rfl) (by kernel_rfl) (fun _ _ _ h => h) (by rfl) ?_ (by assumption) ?_; rotate_left; (intro W hW; have f0 := cell_below hW c0; have f1 := cell_below hW c1; have f2 := cell_below hW c2; have f3 := cell_below hW c3; have f4 := cell_below hW c4; have f5 := cell_below hW d8; have f6 := cell_below hW hc8; first | (go_simp; done) | (go_simp; with_reducible rfl)))
          (try simp only [Act.put, List.setIfInBounds_toArray, List.set_cons_zero, List.set_cons_succ])
          first | (refine hand_skip (i := 6) rfl (by kernel_rfl) (by kernel_rfl) (by kernel_rfl) (fun _ _ _ h => h) (by rfl) (by assumption) ?_) | (refine hand_run (i := 6) (v := ?_) rfl (by kernel_rfl) (by kernel_rfl) (by kernel_rfl) (fun _ _ _ h => h) (by rfl) ?_ (by assumption) ?_; rotate_left; (intro W hW; have f0 := cell_below hW c0; have f1 := cell_below hW c1; have f2 := cell_below hW c2; have f3 := cell_below hW c3; have f4 := cell_below hW c4; have f5 := cell_below hW d8; have f6 := cell_below hW hc8; first | (go_simp; done) | (go_simp; with_reducible rfl)))
          (try simp only [Act.put, List.setIfInBounds_toArray, List.set_cons_zero, List.set_cons_succ])
          first | (refine hand_skip (i := 7) rfl (by kernel_rfl) (by kernel_rfl) (by kernel_rfl) (fun _ _ _ h => h) (by rfl) (by assumption) ?_) | (refine hand_run (i := 7) (v := ?_) rfl (by kernel_rfl) (by kernel_rfl) (by kernel_rfl) (fun _ _ _ h => h) (by rfl) ?_ (by assumption) ?_; rotate_left; (intro W hW; have f0 := cell_below hW c0; have f1 := cell_below hW c1; have f2 := cell_below hW c2; have f3 := cell_below hW c3; have f4 := cell_below hW c4; have f5 := cell_below hW d8; have f6 := cell_below hW hc8; first | (go_simp; done) | (go_simp; with_reducible rfl)))
          (try simp only [Act.put, List.setIfInBounds_toArray, List.set_cons_zero, List.set_cons_succ])
          first | (refine hand_skip (i := 8) rfl (by kernel_rfl) (by kernel_rfl) (by kernel_rfl) (fun _ _ _ h => h) (by rfl) (by assumption) ?_) | (refine hand_run (i := 8) (v := ?_) rfl (by kernel_rfl) (by kernel_rfl) (by kernel_rfl) (fun _ _ _ h => h) (by rfl) ?_ (by assumption) ?_; rotate_left; (intro W hW; have f0 := cell_below hW c0; have f1 := cell_below hW c1; have f2 := cell_below hW c2; have f3 := cell_below hW c3; have f4 := cell_below hW c4; have f5 := cell_below hW d8; have f6 := cell_below hW hc8; first | (go_simp; done) | (go_simp; with_reducible rfl)))
          (try simp only [Act.put, List.setIfInBounds_toArray, List.set_cons_zero, List.set_cons_succ])
          first | (refine hand_skip (i := 9) rfl (by kernel_rfl) (by kernel_rfl) (by kernel_rfl) (fun _ _ _ h => h) (by rfl) (by assumption) ?_) | (refine hand_run (i := 9) (v := ?_) rfl (by kernel_rfl) (by kernel_rfl) (by kernel_rfl) (fun _ _ _ h => h) (by rfl) ?_ (by assumption) ?_; rotate_left; (intro W hW; have f0 := cell_below hW c0; have f1 := cell_below hW c1; have f2 := cell_below hW c2; have f3 := cell_below hW c3; have f4 := cell_below hW c4; have f5 := cell_below hW d8; have f6 := cell_below hW hc8; first | (go_simp; done) | (go_simp; with_reducible rfl)))
          (try simp only [Act.put, List.setIfInBounds_toArray, List.set_cons_zero, List.set_cons_succ])
          first | (refine hand_skip (i := 10) rfl (by kernel_rfl) (by kernel_rfl) (by kernel_rfl) (fun _ _ _ h => h) (by rfl) (by assumption) ?_) | (refine hand_run (i := 10) (v := ?_) rfl (by kernel_rfl) (by kernel_rfl) (by kernel_rfl) (fun _ _ _ h => h) (by rfl) ?_ (by assumption) ?_; rotate_left; (intro W hW; have f0 := cell_below hW c0; have f1 := cell_below hW c1; have f2 := cell_below hW c2; have f3 := cell_below hW c3; have f4 := cell_below hW c4; have f5 := cell_below hW d8; have f6 := cell_below hW hc8; first | (go_simp; done) | (go_simp; with_reducible rfl)))
          (try simp only [Act.put, List.setIfInBounds_toArray, List.set_cons_zero, List.set_cons_succ])
          first | (refine hand_skip (i := 11) rfl (by kernel_rfl) (by kernel_rfl) (by kernel_rfl) (fun _ _ _ h => h) (by rfl) (by assumption) ?_) | (refine hand_run (i := 11) (v := ?_) rfl (by kernel_rfl) (by kernel_rfl) (by kernel_rfl) (fun _ _ _ h => h) (by rfl) ?_ (by assumption) ?_; rotate_left; (intro W hW; have f0 := cell_below hW c0; have f1 := cell_below hW c1; have f2 := cell_below hW c2; have f3 := cell_below hW c3; have f4 := cell_below hW c4; have f5 := cell_below hW d8; have f6 := cell_below hW hc8; first | (go_simp; done) | (go_simp; with_reducible rfl)))
          (try simp only [Act.put, List.setIfInBounds_toArray, List.set_cons_zero, List.set_cons_succ])
          refine hand_one (i := 12) rfl (by kernel_rfl) (fun K hK => ?_)
          refine q_yes (by rfl) ?_
          go_simp
          refine (HPI.out _ (below_trans' hb0r hHeld)).mono ?_
          rintro e w5 ⟨rfl, hb5⟩
          refine hK.out _ _ (below_trans' hHeld hb5) (fun hHeld => ?_)
          clear hK K
          (try simp only [Act.put, List.setIfInBounds_toArray, List.set_cons_zero, List.set_cons_succ])
          refine hand_one (i := 13) rfl (by kernel_rfl) (fun K hK => ?_)
          refine q_yes (by rfl) ?_
          go_simp
          refine (HBT.out _).mono ?_
          rintro e w6 ⟨rfl, rfl⟩
          refine hK.out _ _ (hHeld) (fun hHeld => ?_)
          clear hK K
          (try simp only [Act.put, List.setIfInBounds_toArray, List.set_cons_zero, List.set_cons_succ])
          refine wpAnyH_done (by kernel_rfl) ?_ _
          clear c0 c1 c2 c3 c4 d8 hc8 hc
          go_wp2_with fail
          go_roundg (ls.length - (j + 1))
          case measure => omega
          case rel => exact ⟨j + 1, by omega, rfl, by go_num, by rw [HT.out, HSH.out], below_trans' hb hHeld⟩
        · have HBT := HFBr.out
          rw [show fr.testBit (procN k a) = false from by
            cases e : fr.testBit (procN k a)
            · rfl
            · exact absurd (HFTr.out.1 e) hfr] at HBT
          have HBT := Lib.hid HBT
          have HT := Lib.hid (HN.out hfr)
          clear hfr
          go_wp2_with fail
          refine wp_region_held_drew (S := fun w' => Below wr.heap.size wr w') (by kernel_rfl) ((Below.refl _ _).drew) (fun hHeld => ?_)
          first | (refine hand_skip (i := 0) rfl (by kernel_rfl) (by kernel_rfl) (by kernel_rfl) (fun _ _ _ h => h) (by rfl) (by assumption) ?_) | (refine hand_run (i := 0) (v := ?_) rfl (by kernel_rfl) (by kernel_rfl) (by kernel_rfl) (fun _ _ _ h => h) (by rfl) ?_ (by assumption) ?_; rotate_left; (intro W hW; have f0 := cell_below hW c0; have f1 := cell_below hW c1; have f2 := cell_below hW c2; have f3 := cell_below hW c3; have f4 := cell_below hW c4; have f5 := cell_below hW d8; have f6 := cell_below hW hc8; first | (go_simp; done) | (go_simp; with_reducible rfl)))
          (try simp only [Act.put, List.setIfInBounds_toArray, List.set_cons_zero, List.set_cons_succ])
          first | (refine hand_skip (i := 1) rfl (by kernel_rfl) (by kernel_rfl) (by kernel_rfl) (fun _ _ _ h => h) (by rfl) (by assumption) ?_) | (refine hand_run (i := 1) (v := ?_) rfl (by kernel_rfl) (by kernel_rfl) (by kernel_rfl) (fun _ _ _ h => h) (by rfl) ?_ (by assumption) ?_; rotate_left; (intro W hW; have f0 := cell_below hW c0; have f1 := cell_below hW c1; have f2 := cell_below hW c2; have f3 := cell_below hW c3; have f4 := cell_below hW c4; have f5 := cell_below hW d8; have f6 := cell_below hW hc8; first | (go_simp; done) | (go_simp; with_reducible rfl)))
          (try simp only [Act.put, List.setIfInBounds_toArray, List.set_cons_zero, List.set_cons_succ])
          first | (refine hand_skip (i := 2) rfl (by kernel_rfl) (by kernel_rfl) (by kernel_rfl) (fun _ _ _ h => h) (by rfl) (by assumption) ?_) | (refine hand_run (i := 2) (v := ?_) rfl (by kernel_rfl) (by kernel_rfl) (by kernel_rfl) (fun _ _ _ h => h) (by rfl) ?_ (by assumption) ?_; rotate_left; (intro W hW; have f0 := cell_below hW c0; have f1 := cell_below hW c1; have f2 := cell_below hW c2; have f3 := cell_below hW c3; have f4 := cell_below hW c4; have f5 := cell_below hW d8; have f6 := cell_below hW hc8; first | (go_simp; done) | (go_simp; with_reducible rfl)))
          (try simp only [Act.put, List.setIfInBounds_toArray, List.set_cons_zero, List.set_cons_succ])
          first | (refine hand_skip (i := 3) rfl (by kernel_rfl) (by kernel_rfl) (by kernel_rfl) (fun _ _ _ h => h) (by rfl) (by assumption) ?_) | (refine hand_run (i := 3) (v := ?_) rfl (by kernel_rfl) (by kernel_rfl) (by kernel_rfl) (fun _ _ _ h => h) (by rfl) ?_ (by assumption) ?_; rotate_left; (intro W hW; have f0 := cell_below hW c0; have f1 := cell_below hW c1; have f2 := cell_below hW c2; have f3 := cell_below hW c3; have f4 := cell_below hW c4; have f5 := cell_below hW d8; have f6 := cell_below hW hc8; first | (go_simp; done) | (go_simp; with_reducible rfl)))
          (try simp only [Act.put, List.setIfInBounds_toArray, List.set_cons_zero, List.set_cons_succ])
          first | (refine hand_skip (i := 4) rfl (by kernel_rfl) (by kernel_rfl) (by kernel_rfl) (fun _ _ _ h => h) (by rfl) (by assumption) ?_) | (refine hand_run (i := 4) (v := ?_) rfl (by kernel_rfl) (by kernel_rfl) (by kernel_rfl) (fun _ _ _ h => h) (by rfl) ?_ (by assumption) ?_; rotate_left; (intro W hW; have f0 := cell_below hW c0; have f1 := cell_below hW c1; have f2 := cell_below hW c2; have f3 := cell_below hW c3; have f4 := cell_below hW c4; have f5 := cell_below hW d8; have f6 := cell_below hW hc8; first | (go_simp; done) | (go_simp; with_reducible rfl)))
          (try simp only [Act.put, List.setIfInBounds_toArray, List.set_cons_zero, List.set_cons_succ])
          first | (refine hand_skip (i := 5) rfl (by kernel_rfl) (by kernel_rfl) (by kernel_rfl) (fun _ _ _ h => h) (by rfl) (by assumption) ?_) | (refine hand_run (i := 5) (v := ?_) rfl (by kernel_rfl) (by kernel_rfl) (by kernel_rfl) (fun _ _ _ h => h) (by rfl) ?_ (by assumption) ?_; rotate_left; (intro W hW; have f0 := cell_below hW c0; have f1 := cell_below hW c1; have f2 := cell_below hW c2; have f3 := cell_below hW c3; have f4 := cell_below hW c4; have f5 := cell_below hW d8; have f6 := cell_below hW hc8; first | (go_simp; done) | (go_simp; with_reducible rfl)))
          (try simp only [Act.put, List.setIfInBounds_toArray, List.set_cons_zero, List.set_cons_succ])
          first | (refine hand_skip (i := 6) rfl (by kernel_rfl) (by kernel_rfl) (by kernel_rfl) (fun _ _ _ h => h) (by rfl) (by assumption) ?_) | (refine hand_run (i := 6) (v := ?_) rfl (by kernel_rfl) (by kernel_rfl) (by kernel_rfl) (fun _ _ _ h => h) (by rfl) ?_ (by assumption) ?_; rotate_left; (intro W hW; have f0 := cell_below hW c0; have f1 := cell_below hW c1; have f2 := cell_below hW c2; have f3 := cell_below hW c3; have f4 := cell_below hW c4; have f5 := cell_below hW d8; have f6 := cell_below hW hc8; first | (go_simp; done) | (go_simp; with_reducible rfl)))
          (try simp only [Act.put, List.setIfInBounds_toArray, List.set_cons_zero, List.set_cons_succ])
          first | (refine hand_skip (i := 7) rfl (by kernel_rfl) (by kernel_rfl) (by kernel_rfl) (fun _ _ _ h => h) (by rfl) (by assumption) ?_) | (refine hand_run (i := 7) (v := ?_) rfl (by kernel_rfl) (by kernel_rfl) (by kernel_rfl) (fun _ _ _ h => h) (by rfl) ?_ (by assumption) ?_; rotate_left; (intro W hW; have f0 := cell_below hW c0; have f1 := cell_below hW c1; have f2 := cell_below hW c2; have f3 := cell_below hW c3; have f4 := cell_below hW c4; have f5 := cell_below hW d8; have f6 := cell_below hW hc8; first | (go_simp; done) | (go_simp; with_reducible rfl)))
          (try simp only [Act.put, List.setIfInBounds_toArray, List.set_cons_zero, List.set_cons_succ])
          first | (refine hand_skip (i := 8) rfl (by kernel_rfl) (by kernel_rfl) (by kernel_rfl) (fun _ _ _ h => h) (by rfl) (by assumption) ?_) | (refine hand_run (i := 8) (v := ?_) rfl (by kernel_rfl) (by kernel_rfl) (by kernel_rfl) (fun _ _ _ h => h) (by rfl) ?_ (by assumption) ?_; rotate_left; (intro W hW; have f0 := cell_below hW c0; have f1 := cell_below hW c1; have f2 := cell_below hW c2; have f3 := cell_below hW c3; have f4 := cell_below hW c4; have f5 := cell_below hW d8; have f6 := cell_below hW hc8; first | (go_simp; done) | (go_simp; with_reducible rfl)))
          (try simp only [Act.put, List.setIfInBounds_toArray, List.set_cons_zero, List.set_cons_succ])
          first | (refine hand_skip (i := 9) rfl (by kernel_rfl) (by kernel_rfl) (by kernel_rfl) (fun _ _ _ h => h) (by rfl) (by assumption) ?_) | (refine hand_run (i := 9) (v := ?_) rfl (by kernel_rfl) (by kernel_rfl) (by kernel_rfl) (fun _ _ _ h => h) (by rfl) ?_ (by assumption) ?_; rotate_left; (intro W hW; have f0 := cell_below hW c0; have f1 := cell_below hW c1; have f2 := cell_below hW c2; have f3 := cell_below hW c3; have f4 := cell_below hW c4; have f5 := cell_below hW d8; have f6 := cell_below hW hc8; first | (go_simp; done) | (go_simp; with_reducible rfl)))
          (try simp only [Act.put, List.setIfInBounds_toArray, List.set_cons_zero, List.set_cons_succ])
          first | (refine hand_skip (i := 10) rfl (by kernel_rfl) (by kernel_rfl) (by kernel_rfl) (fun _ _ _ h => h) (by rfl) (by assumption) ?_) | (refine hand_run (i := 10) (v := ?_) rfl (by kernel_rfl) (by kernel_rfl) (by kernel_rfl) (fun _ _ _ h => h) (by rfl) ?_ (by assumption) ?_; rotate_left; (intro W hW; have f0 := cell_below hW c0; have f1 := cell_below hW c1; have f2 := cell_below hW c2; have f3 := cell_below hW c3; have f4 := cell_below hW c4; have f5 := cell_below hW d8; have f6 := cell_below hW hc8; first | (go_simp; done) | (go_simp; with_reducible rfl)))
          (try simp only [Act.put, List.setIfInBounds_toArray, List.set_cons_zero, List.set_cons_succ])
          first | (refine hand_skip (i := 11) rfl (by kernel_rfl) (by kernel_rfl) (by kernel_rfl) (fun _ _ _ h => h) (by rfl) (by assumption) ?_) | (refine hand_run (i := 11) (v := ?_) rfl (by kernel_rfl) (by kernel_rfl) (by kernel_rfl) (fun _ _ _ h => h) (by rfl) ?_ (by assumption) ?_; rotate_left; (intro W hW; have f0 := cell_below hW c0; have f1 := cell_below hW c1; have f2 := cell_below hW c2; have f3 := cell_below hW c3; have f4 := cell_below hW c4; have f5 := cell_below hW d8; have f6 := cell_below hW hc8; first | (go_simp; done) | (go_simp; with_reducible rfl)))
          (try simp only [Act.put, List.setIfInBounds_toArray, List.set_cons_zero, List.set_cons_succ])
          refine hand_one (i := 12) rfl (by kernel_rfl) (fun K hK => ?_)
          refine q_yes (by rfl) ?_
          go_simp
          refine (HPI.out _ (below_trans' hb0r hHeld)).mono ?_
          rintro e w5 ⟨rfl, hb5⟩
          refine hK.out _ _ (below_trans' hHeld hb5) (fun hHeld => ?_)
          clear hK K
          (try simp only [Act.put, List.setIfInBounds_toArray, List.set_cons_zero, List.set_cons_succ])
          refine hand_one (i := 13) rfl (by kernel_rfl) (fun K hK => ?_)
          refine q_yes (by rfl) ?_
          go_simp
          refine (HBT.out _).mono ?_
          rintro e w6 ⟨rfl, rfl⟩
          refine hK.out _ _ (hHeld) (fun hHeld => ?_)
          clear hK K
          (try simp only [Act.put, List.setIfInBounds_toArray, List.set_cons_zero, List.set_cons_succ])
          refine wpAnyH_done (by kernel_rfl) ?_ _
          clear c0 c1 c2 c3 c4 d8 hc8 hc
          go_wp2_with fail
          go_roundg (ls.length - (j + 1))
          case measure => omega
          case rel => exact ⟨j + 1, by omega, rfl, by go_num, by rw [HT.out], below_trans' hb hHeld⟩
      · obtain rfl : j = ls.length := by omega
        go_wp2_with fail
        go_ret
        exact ⟨ret_int (by rw [← HAT.out, List.take_length]), below_trans' hb02 hb⟩
  · have HZ := Lib.hid (atN_dead hlv)
    obtain ⟨adl, rfl, _, hcl⟩ := hrl.mark (j := a) (by rw [markL_len]; exact ha)
    rw [mkd_markL_neg hlv] at hcl
    clear hlv hr hW
    go_enter Tryz.func76, Tryz.ntmps76
    go_wp2_with fail
    refine HP.out.mono ?_
    rintro e w1 ⟨rfl, hb1⟩
    have h5' := cell_below hb1 h5
    have hcl' := cell_below hb1 hcl
    clear c0 c1 c2 c3 c4 h5 hcl hrl
    go_wp2_with fail
    go_ret
    exact ⟨ret_int (by rw [HZ.out]; rfl), hb1⟩

set_option maxHeartbeats 1000000 in
theorem singles_any {B : Nat} (g : Nat) (v : CV) (k : Cd) (w : World) (hr : Right k) (hW : WAt w B g v k) :
    Calls Tryz.prog 77 #[.pointer (some ⟨g, 0, none⟩)] w fun e w' => e = .returned (.int .i64 (singN k : Nat)) ∧ Below w.heap.size w w' := by
  have hWf := hW.full
  have hpl := hr.procs
  have HBB := Lib.hid (fun W => (show Calls Tryz.prog 94 #[.int .i64 (rootsN k : Nat)] W (NewNats W (listN k.procs.length (RootP k))) from by
    have HB := bitsOf_nats (rootsN k) W (two60 hr (setN_lt _ _))
    rw [show bitsTo (rootsN k) 62 = listN k.procs.length (RootP k) from bitsTo_setN (by omega)] at HB
    exact HB))
  have HML := Lib.hid (show ∀ i ∈ listN k.procs.length (RootP k), i < k.procs.length from fun i hi => (mem_listN.1 hi).1)
  have HSG := Lib.hid (fun r (hrl : r < k.procs.length) W (hb : Below w.heap.size w W) => single_any g v k r W hr (hWf.below hb) hrl)
  have HAT := Lib.hid (singN_sel k)
  have HSL := Lib.hid (show ∀ l : List Nat, (∀ i ∈ l, i < k.procs.length) → orSel (SingR k) l < 2 ^ k.procs.length from fun l h => orSel_lt h)
  have h9 := hWf.roots
  have hbl := listN_len k.procs.length (RootP k)
  clear hr hW
  generalize rootsN k = rn at *
  generalize listN k.procs.length (RootP k) = ls at *
  go_enter Tryz.func77, Tryz.ntmps77
  go_wp2_with fail
  refine (HBB.out _).mono ?_
  rintro e w2 ⟨Ab, cb, rfl, hob, hb02⟩
  have hrb := own_rd hob
  clear hob h9
  go_wp2_with fail
  go_loopg [3, 12] ls.length (fun l s i wr => ∃ j : Nat, j ≤ ls.length ∧ l = ls.length - j ∧ i = .int .i64 j ∧ s = .int .i64 (orSel (SingR k) (ls.take j) : Nat) ∧ Below w2.heap.size w2 wr)
  case atStart => exact ⟨0, by omega, by omega, rfl, rfl, Below.refl _ _⟩
  case round =>
    obtain ⟨j, hj, rfl, rfl, rfl, hb⟩ := hrel
    by_cases hlt : j < ls.length
    · obtain ⟨ad, rfl, _, hc⟩ := (hrb.below hb).nat hlt
      have hil := HML.out ls[j] (List.getElem_mem hlt)
      have HY := Lib.hid (fun (h : SingR k ls[j]) => (show orSel (SingR k) (ls.take (j + 1)) = _ from by rw [List.take_succ_eq_append_getElem hlt, orSel_yes h]))
      have HN := Lib.hid (fun (h : ¬ SingR k ls[j]) => (show orSel (SingR k) (ls.take (j + 1)) = _ from by rw [List.take_succ_eq_append_getElem hlt, orSel_no h]))
      have hsl := HSL.out (ls.take j) fun i hi => HML.out i (List.mem_of_mem_take hi)
      have h256 : 2 ^ k.procs.length ≤ 2 ^ 8 := Nat.pow_le_pow_right (by omega) hpl
      generalize ls[j] = r at *
      generalize orSel (SingR k) (ls.take j) = s at *
      have HS := Lib.hid (HSG.out r hil wr (below_trans' hb02 hb))
      cases hsb : singB k r
      · have hns : ¬ SingR k r := fun h => by rw [singB_yes h] at hsb; simp at hsb
        rw [hsb] at HS
        have HT := Lib.hid (HN.out hns)
        clear hsb hns
        go_wp2_with fail
        refine HS.out.mono ?_
        rintro e w5 ⟨rfl, hb5⟩
        go_wp2_with fail
        go_roundg (ls.length - (j + 1))
        case measure => omega
        case rel => exact ⟨j + 1, by omega, rfl, by go_num, by rw [HT.out], below_trans' hb hb5⟩
      · have hns : SingR k r := singB_iff.1 hsb
        rw [hsb] at HS
        have HT := Lib.hid (HY.out hns)
        have HSH := Lib.hid (show bits .or .i64 (s : Int) (wrap64 ((2 : Int) ^ r)) = ((s ||| 2 ^ r : Nat) : Int) from by rw [shl_one _ (by omega), i64_or_nat _ _ (by omega) (two_pow_lt _ (by omega))])
        clear hsb hns
        go_wp2_with fail
        refine HS.out.mono ?_
        rintro e w5 ⟨rfl, hb5⟩
        go_wp2_with fail
        go_roundg (ls.length - (j + 1))
        case measure => omega
        case rel => exact ⟨j + 1, by omega, rfl, by go_num, by rw [HT.out, HSH.out], below_trans' hb hb5⟩
    · obtain rfl : j = ls.length := by omega
      go_wp2_with fail
      go_ret
      exact ⟨ret_int (by rw [← HAT.out, List.take_length]), below_trans' hb02 hb⟩

theorem rootsAt_pub (g : Nat) (v : CV) (k : Cd) (x : Int) (w : World) (hr : Right k) (hok : codeOkI k = true) (hW : WAt w w.heap.size g v k) :
    Calls Tryz.prog 76 #[.pointer (some ⟨g, 0, none⟩), .int .i64 x] w fun e w' => e = .returned (.int .i64 (atI k x (atN k) : Nat)) ∧ Below w.heap.size w w' := by
  cases hpl : (decide (0 ≤ x) && decide (x < k.ins.length))
  · have := rootsAt_no g v k x w hW.kat hpl
    rw [show atI k x (atN k) = 0 from atI_no (and_no2 hpl)]
    exact this
  · obtain ⟨a, rfl, hal⟩ : ∃ a : Nat, x = a ∧ a < k.ins.length := by
      simp only [Bool.and_eq_true, decide_eq_true_eq] at hpl
      exact ⟨x.toNat, by omega, by omega⟩
    rw [atI_yes hok hal]
    exact rootsAt_any g v k a w hr hW hal
theorem atI_lt (k : Cd) (x : Int) : atI k x (atN k) < 2 ^ k.procs.length := by
  unfold atI
  split
  · exact atN_lt _ _
  · exact Nat.two_pow_pos _
theorem atI_bits {k : Cd} (hr : Right k) (x : Int) : bitsTo (atI k x (atN k)) 62 = atL k x (fun a => listN k.procs.length (AtP k a)) := by
  have hpl := hr.procs
  unfold atI atL
  split
  · exact bitsTo_setN (by omega)
  · simp [bitsTo]
end Go.Proofs.YtfecdgjnncpcjaaGreat
