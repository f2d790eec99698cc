/- Contracts of keepIn and l13Keep; KeepOf of the program and of the reference. -/
import Derived.Test.YtkgoajnnkimkaaaGreatD3
set_option linter.unusedSimpArgs false
set_option linter.unusedVariables false
namespace Go.Proofs.YtkgoajnnkimkaaaGreat
open Go.ChangeShapes Go.WideShapes Go.ChangeAt Go.RowKit
/-- What is kept behind the places of a list. -/
def kp (k : Cd) (s : Nat) (l : List Nat) : Nat := l.foldl (fun s a => if opN k a = 7 then andNot s (2 ^ argN k a) else s) s
theorem kp_append (k : Cd) (s : Nat) (l m : List Nat) : kp k s (l ++ m) = kp k (kp k s l) m := by simp [kp]
theorem kp_snoc (k : Cd) (s : Nat) (l : List Nat) (a : Nat) : kp k s (l ++ [a]) = if opN k a = 7 then andNot (kp k s l) (2 ^ argN k a) else kp k s l := by simp [kp]
theorem kp_le (k : Cd) (l : List Nat) : ∀ s, kp k s l ≤ s := by
  induction l with
  | nil => intro s; exact Nat.le_refl _
  | cons a r ih =>
    intro s
    have e : kp k s (a :: r) = kp k (if opN k a = 7 then andNot s (2 ^ argN k a) else s) r := rfl
    rw [e]
    refine Nat.le_trans (ih _) ?_
    split
    · exact andNot_le _ _
    · exact Nat.le_refl _
/-- The live places of the procedures of a list. -/
noncomputable def placesL (k : Cd) (ps : List Nat) : List Nat := ps.flatMap fun p => listN k.ins.length (LiveP k p)
theorem placesL_snoc (k : Cd) (ps : List Nat) (p : Nat) : placesL k (ps ++ [p]) = placesL k ps ++ listN k.ins.length (LiveP k p) := by simp [placesL]
/-- What KeepOf answers. -/
noncomputable def keepN (k : Cd) (p : Nat) : Nat := kp k 63 (placesL k (listN k.procs.length (FromP k p)))
theorem keepN_lt (k : Cd) (p : Nat) : keepN k p < 64 := by have := kp_le k (placesL k (listN k.procs.length (FromP k p))) 63; unfold keepN; omega

set_option maxHeartbeats 1000000 in
theorem keepIn_any {B : Nat} (g : Nat) (v : CV) (k : Cd) (p : Nat) (w : World) (hr : Right k) (hW : WAt w B g v k) (hp : p < k.procs.length) :
    Calls Tryz.prog 101 #[.pointer (some ⟨g, 0, none⟩), .int .i64 p] w fun e w' => e = .returned (.int .i64 (keepN k p : Nat)) ∧ Below w.heap.size w w' := by
  have hWf := hW.full
  have hkf := hWf.code
  have hins := hr.ins
  have hpl := hr.procs
  have HB := bitsOf_nats (fromT k p) w (two60 hr (setN_lt _ _))
  unfold fromT at HB
  rw [bitsTo_setN (by omega)] at HB
  have HB := Lib.hid HB
  have HI := Lib.hid (show ∀ i ∈ listN k.procs.length (FromP k p), i < k.procs.length from fun i hi => (mem_listN.1 hi).1)
  have HLO := Lib.hid (fun q (hq : q < k.procs.length) W (hb : Below w.heap.size w W) => liveOf_any g v k q W hr (hkf.below hb) (hWf.kat.to hb) (hWf.live.below hb (Nat.le_refl _)) hq)
  have HR := Lib.hid hr
  obtain ⟨ad8, ct8, h8, hc8⟩ := hWf.frm.get hp
  unfold fromT at hc8
  have hg := hWf.kat
  have HKN := Lib.hid (show keepN k p = kp k 63 (placesL k (listN k.procs.length (FromP k p))) from rfl)
  have hbl := listN_len k.procs.length (FromP k p)
  have HKL := Lib.hid (fun l => kp_le k l 63)
  have y1 : (0 : Int) ≤ (p : Int) := by omega
  have y2 : (p : Int) < (k.procs.length : Int) := by omega
  clear hr hW hWf
  generalize listN k.procs.length (FromP k p) = bs at *
  go_enter Tryz.func101, Tryz.ntmps101
  go_wp2_with fail
  refine HB.out.mono ?_
  rintro e w1 ⟨Ab, cb, rfl, hob, hb1⟩
  have hrb := own_rd hob
  clear hob h8 hc8
  go_wp2_with fail
  go_loopg [5, 19] bs.length (fun l kv i wr => ∃ j : Nat, j ≤ bs.length ∧ l = bs.length - j ∧ i = .int .i64 j ∧ kv = .int .i64 (kp k 63 (placesL k (bs.take j)) : Nat) ∧ Below w1.heap.size w1 wr)
  case atStart => exact ⟨0, by omega, by omega, rfl, rfl, Below.refl _ _⟩
  case round =>
    obtain ⟨j, hj, rfl, rfl, rfl, hb⟩ := hrel
    by_cases hlt : j < bs.length
    · obtain ⟨ad, rfl, _, hc⟩ := (hrb.below hb).nat hlt
      have hil := HI.out bs[j] (List.getElem_mem hlt)
      have HT := Lib.hid (show placesL k (bs.take (j + 1)) = placesL k (bs.take j) ++ listN k.ins.length (LiveP k bs[j]) from by rw [List.take_succ_eq_append_getElem hlt, placesL_snoc])
      generalize bs[j] = q at *
      have HLP := Lib.hid (HLO.out q hil wr (below_trans' hb1 hb))
      have HXL := Lib.hid (show ∀ a ∈ listN k.ins.length (LiveP k q), a < k.ins.length from fun a ha => (mem_listN.1 ha).1)
      have hll := listN_len k.ins.length (LiveP k q)
      generalize placesL k (bs.take j) = pl at HT ⊢
      go_wp2_with fail
      refine HLP.out.mono ?_
      rintro e w2 ⟨An, cn, rfl, hon, hb2⟩
      have hb12 := below_trans' hb hb2
      have hrn := own_rd hon
      generalize listN k.ins.length (LiveP k q) = ls at hon hrn HXL hll HT ⊢
      clear hon
      go_wp2_with fail
      obtain ⟨wo, rfl⟩ : ∃ wo : World, wo = wr := ⟨_, rfl⟩
      go_loopg [5, 27] ls.length (fun l kv i wr => ∃ m : Nat, m ≤ ls.length ∧ l = ls.length - m ∧ i = .int .i64 m ∧ kv = .int .i64 (kp k 63 (pl ++ ls.take m) : Nat) ∧ Below w2.heap.size w2 wr)
      case atStart => exact ⟨0, by omega, by omega, rfl, by simp, Below.refl _ _⟩
      case round =>
        obtain ⟨m, hm, rfl, rfl, rfl, hbm⟩ := hrel
        have hb2m := below_trans' hb12 hbm
        by_cases hltm : m < ls.length
        · obtain ⟨adn, rfl, hbn, hcj⟩ := (hrn.below hbm).nat hltm
          have hxl := HXL.out ls[m] (List.getElem_mem hltm)
          have HT2 := Lib.hid (show kp k 63 (pl ++ ls.take (m + 1)) = _ from by rw [List.take_succ_eq_append_getElem hltm, ← List.append_assoc, kp_snoc])
          generalize ls[m] = a at *
          have hkl := HKL.out (pl ++ ls.take m)
          generalize kp k 63 (pl ++ ls.take m) = s at *
          have hbw := below_trans' hb1 hb2m
          obtain ⟨d0, d1, d2, d3, d4⟩ := hg.to hbw
          obtain ⟨ai, A', c', eA, hbi, k0, k1, k2, k3, k4, k5, k6, _⟩ := (hkf.below hbw).full.i.get hxl
          rw [eA] at d4
          rw [opN_eq hxl] at k0
          rw [argN_eq HR.out hxl] at k1
          have z1 : (0 : Int) ≤ (a : Int) := by omega
          have z2 : (a : Int) < (k.ins.length : Int) := by omega
          clear eA
          by_cases h1 : opN k a = 7
          · have hal := argN_lt6 HR.out hxl (.inr h1)
            have hlk := HR.out.locks
            have HT3 := Lib.hid (show bits .andNot .i64 (s : Int) (wrap64 ((2 : Int) ^ argN k a)) = (kp k 63 (pl ++ ls.take (m + 1)) : Nat) from by
              rw [HT2.out, if_pos h1, shl_one _ (by omega), i64_andNot_nat _ _ (by omega) (two_pow_lt _ (by omega))])
            rw [h1] at k0
            go_wp2_with fail
            go_roundg (ls.length - (m + 1))
            case measure => omega
            case rel => exact ⟨m + 1, by omega, rfl, by go_num, by rw [← HT3.out], hbm⟩
          · have e1 : (opN k a == 7) = false := by simpa using h1
            have HT3 := Lib.hid (show kp k 63 (pl ++ ls.take (m + 1)) = s from by rw [HT2.out, if_neg h1])
            clear h1
            go_wp2_with fail
            go_roundg (ls.length - (m + 1))
            case measure => omega
            case rel => exact ⟨m + 1, by omega, rfl, by go_num, by rw [HT3.out], hbm⟩
        · obtain rfl : m = ls.length := by omega
          go_wp2_with fail
          go_roundg (bs.length - (j + 1))
          case measure => omega
          case rel => exact ⟨j + 1, by omega, rfl, by go_num, by rw [HT.out, List.take_length], hb2m⟩
    · obtain rfl : j = bs.length := by omega
      go_wp2_with fail
      go_ret
      exact ⟨ret_int (by rw [HKN.out, List.take_length]), below_trans' hb1 hb⟩

theorem listN_step {P : Nat → Prop} {n : Nat} (h : P n) : listN (n + 1) P = listN n P ++ [n] := by rw [listN_succ, if_pos h]
theorem listN_skip {P : Nat → Prop} {n : Nat} (h : ¬ P n) : listN (n + 1) P = listN n P := by rw [listN_succ, if_neg h]
theorem without_nat {s x : Nat} (hs : s < 64) (hx : x < 6) : withoutV (s : Int) ((2 ^ x : Nat) : Int) = ((andNot s (2 ^ x) : Nat) : Int) := by
  have h2 : 2 ^ x < 64 := (Nat.pow_lt_pow_right (by omega) hx : 2 ^ x < 2 ^ 6)
  simp only [withoutV, isSetB_of_nat hs, isSetB_of_nat h2, Bool.and_self, if_true, Int.toNat_natCast]

set_option maxHeartbeats 1000000 in
theorem l13Keep_any {B : Nat} (v : CV) (k : Cd) (p : Nat) (w : World) (hr : Right k) (hk : CodeAt w B v k) (hp : p < k.procs.length) :
    Calls Tryz.prog 207 #[.agg #[.slice v.gA k.globals.length v.gc, .slice v.lA k.locks.length v.lc, .slice v.pA k.procs.length v.pc, .slice v.eA k.entry.length v.ec, .slice v.iA k.ins.length v.ic], .int .i64 p] w fun e w' => e = .returned (.int .i64 (keepN k p : Nat)) ∧ Below w.heap.size w w' := by
  have hkf := hk.full
  have hbx := codeBox w v k
  have hins := hr.ins
  have hpl := hr.procs
  have HFR := Lib.hid (fun W (h : CodeAt W w.heap.size v k) => l10From_any v k p W hr h hp)
  have HLV := Lib.hid (fun q (hq : q < k.procs.length) W (h : CodeAt W w.heap.size v k) => l09Live_any v k q W hr h hq)
  have HR := Lib.hid hr
  have HKN := Lib.hid (show keepN k p = kp k 63 (placesL k (listN k.procs.length (FromP k p))) from rfl)
  have HKL := Lib.hid (fun l => kp_le k l 63)
  clear hk hr
  go_enter Tryz.func207, Tryz.ntmps207
  go_wp2_with fail
  generalize w.alloc (.cells #[.slice v.gA k.globals.length v.gc, .slice v.lA k.locks.length v.lc, .slice v.pA k.procs.length v.pc, .slice v.eA k.entry.length v.ec, .slice v.iA k.ins.length v.ic] 28) = W at hbx ⊢
  refine (HFR.out _ (hkf.below hbx.1)).mono ?_
  rintro e w1 ⟨Af, cf, rfl, hof, hb1⟩
  have hbx1 := hbx.to hb1
  have hrf := own_rd hof
  rw [markL_len]
  clear hbx hb1 hof
  go_wp2_with fail
  go_loopg [6, 7] k.procs.length (fun l kv i wr => ∃ q : Nat, q ≤ k.procs.length ∧ l = k.procs.length - q ∧ i = .int .i64 q ∧ kv = .int .i64 (kp k 63 (placesL k (listN q (FromP k p))) : Nat) ∧ Below w1.heap.size w1 wr)
  case atStart => exact ⟨0, by omega, by omega, rfl, rfl, Below.refl _ _⟩
  case round =>
    obtain ⟨q, hq, rfl, rfl, rfl, hb⟩ := hrel
    have hbxr := hbx1.to hb
    obtain ⟨q1, q2, c0, c1, c2, c3, c4⟩ := id hbxr
    by_cases hlt : q < k.procs.length
    · obtain ⟨adf, rfl, hbf, hcf⟩ := (hrf.below hb).mark (j := q) (by rw [markL_len]; exact hlt)
      have y1 : (0 : Int) ≤ (q : Int) := by omega
      have y2 : (q : Int) < (k.procs.length : Int) := by omega
      by_cases hfr : FromP k p q
      · rw [mkd_markL_pos hlt hfr] at hcf
        have HT := Lib.hid (show placesL k (listN (q + 1) (FromP k p)) = placesL k (listN q (FromP k p)) ++ listN k.ins.length (LiveP k q) from by rw [listN_step hfr, placesL_snoc])
        generalize placesL k (listN q (FromP k p)) = pl at HT ⊢
        go_wp2_with fail
        refine (HLV.out q hlt _ (hkf.below hbxr.1)).mono ?_
        rintro e w3 ⟨Am, cm, rfl, hom, hb3⟩
        rw [markL_len]
        have hbx3 := hbxr.to hb3
        have hb13 := below_trans' hb hb3
        have hrm := own_rd hom
        clear c0 c1 c2 c3 c4 q1 q2 hom hcf
        go_wp2_with fail
        obtain ⟨wo, rfl⟩ : ∃ wo : World, wo = wr := ⟨_, rfl⟩
        go_loopg [6, 9] k.ins.length (fun l kv i wr => ∃ a : Nat, a ≤ k.ins.length ∧ l = k.ins.length - a ∧ i = .int .i64 a ∧ kv = .int .i64 (kp k 63 (pl ++ listN a (LiveP k q)) : Nat) ∧ Below w3.heap.size w3 wr)
        case atStart => exact ⟨0, by omega, by omega, rfl, by simp [listN], Below.refl _ _⟩
        case round =>
          obtain ⟨a, ha, rfl, rfl, rfl, hbm⟩ := hrel
          have hbx4 := hbx3.to hbm
          obtain ⟨q1, q2, c0, c1, c2, c3, c4⟩ := id hbx4
          by_cases hxl : a < k.ins.length
          · obtain ⟨adm, rfl, hbm2, hcm⟩ := (hrm.below hbm).mark (j := a) (by rw [markL_len]; exact hxl)
            have hkl := HKL.out (pl ++ listN a (LiveP k q))
            have HSN := Lib.hid (fun l => kp_snoc k 63 l a)
            obtain ⟨ai, A', c', eA, hbi, k0, k1, k2, k3, k4, k5, k6, _⟩ := (hkf.below hbx4.1).full.i.get hxl
            rw [eA] at c4
            rw [opN_eq hxl] at k0
            rw [argN_eq HR.out hxl] at k1
            have z1 : (0 : Int) ≤ (a : Int) := by omega
            have z2 : (a : Int) < (k.ins.length : Int) := by omega
            clear eA
            generalize hS : kp k 63 (pl ++ listN a (LiveP k q)) = s at hkl ⊢
            have HS := Lib.hid hS
            clear hS
            by_cases hlv : LiveP k q a
            · rw [mkd_markL_pos hxl hlv] at hcm
              have HT2 := Lib.hid (show kp k 63 (pl ++ listN (a + 1) (LiveP k q)) = if opN k a = 7 then andNot s (2 ^ argN k a) else s from by rw [listN_step hlv, ← List.append_assoc, HSN.out, HS.out])
              by_cases h1 : opN k a = 7
              · have hal := argN_lt6 HR.out hxl (.inr h1)
                have hlk := HR.out.locks
                have HT3 := Lib.hid (show withoutV (s : Int) ((2 : Int) ^ argN k a) = (kp k 63 (pl ++ listN (a + 1) (LiveP k q)) : Nat) from by rw [two_pow_cast, HT2.out, if_pos h1, without_nat (by omega) (by omega)])
                rw [h1] at k0
                go_wp2_with fail
                refine (l12Bit_any (argN k a) _ (by omega)).mono ?_
                rintro e w5 ⟨rfl, rfl⟩
                go_wp2_with fail
                refine (without_s _ _ _).mono ?_
                rintro e w5 ⟨rfl, rfl⟩
                rw [HT3.out]
                go_wp2_with fail
                go_roundg (k.ins.length - (a + 1))
                case measure => omega
                case rel => exact ⟨a + 1, by omega, rfl, by go_num, rfl, hbm⟩
              · have e1 : (opN k a == 7) = false := by simpa using h1
                have HT3 := Lib.hid (show kp k 63 (pl ++ listN (a + 1) (LiveP k q)) = s from by rw [HT2.out, if_neg h1])
                clear h1
                go_wp2_with fail
                go_roundg (k.ins.length - (a + 1))
                case measure => omega
                case rel => exact ⟨a + 1, by omega, rfl, by go_num, by rw [HT3.out], hbm⟩
            · rw [mkd_markL_neg hlv] at hcm
              have HT3 := Lib.hid (show kp k 63 (pl ++ listN (a + 1) (LiveP k q)) = s from by rw [listN_skip hlv, HS.out])
              go_wp2_with fail
              go_roundg (k.ins.length - (a + 1))
              case measure => omega
              case rel => exact ⟨a + 1, by omega, rfl, by go_num, by rw [HT3.out], hbm⟩
          · obtain rfl : a = k.ins.length := by omega
            go_wp2_with fail
            go_roundg (k.procs.length - (q + 1))
            case measure => omega
            case rel => exact ⟨q + 1, by omega, rfl, by go_num, by rw [HT.out], below_trans' hb13 hbm⟩
      · rw [mkd_markL_neg hfr] at hcf
        have HT := Lib.hid (listN_skip (n := q) hfr)
        go_wp2_with fail
        go_roundg (k.procs.length - (q + 1))
        case measure => omega
        case rel => exact ⟨q + 1, by omega, rfl, by go_num, by rw [HT.out], hb⟩
    · obtain rfl : q = k.procs.length := by omega
      go_wp2_with fail
      go_ret
      exact ⟨ret_int (by rw [HKN.out]), below_trans' hbx1.1 hb⟩

set_option maxHeartbeats 1000000 in
theorem keepOf_i {B L : Nat} (v : CV) (k : Cd) (at_ : Int) (w : World) (hk : CodeAt w B v k) (hcb : CdB L k) (hL : L ≤ 1048576) :
    Calls Tryz.prog 24 #[.agg #[.slice v.gA k.globals.length v.gc, .slice v.lA k.locks.length v.lc, .slice v.pA k.procs.length v.pc, .slice v.eA k.entry.length v.ec, .slice v.iA k.ins.length v.ic], .int .i64 at_] w (fun e w' => e = .returned (.int .i64 ((procV k at_ (keepN k) : Nat) : Int)) ∧ Below w.heap.size w w') := by
  have hkf := hk.full
  have hbx := codeBox w v k
  have hpl0 := hcb.procs
  have hil0 := hcb.ins
  cases hok : codeOkI k
  · have HW := Lib.hid (fun W (h : CodeAt W w.heap.size v k) => worldOf_no v k W h hcb (by omega) hok)
    have HZ := Lib.hid (show ∀ w', Below w.heap.size w w' → Ending.returned (.int .i64 0) = .returned (.int .i64 ((procV k at_ (keepN k) : Nat) : Int)) ∧ Below w.heap.size w w' from fun w' h => ⟨by rw [procV_no (and_no1 hok)]; rfl, h⟩)
    clear hok hcb hk
    go_enter Tryz.func24, Tryz.ntmps24
    go_wp2_with fail
    generalize w.alloc (.cells #[.slice v.gA k.globals.length v.gc, .slice v.lA k.locks.length v.lc, .slice v.pA k.procs.length v.pc, .slice v.eA k.entry.length v.ec, .slice v.iA k.ins.length v.ic] 28) = W at hbx ⊢
    refine (HW.out _ (hkf.below hbx.1)).mono ?_
    rintro e w1 ⟨rfl, hb1⟩
    go_wp2_with fail
    go_ret
    exact HZ.out _ (below_trans' hbx.1 hb1)
  · have HR := Lib.hid (right_of hok)
    have HW := Lib.hid (fun W (h : CodeAt W w.heap.size v k) => worldOf_yes v k W h hcb (by omega) hok)
    cases hpl : (decide (0 ≤ at_) && decide (at_ < k.procs.length))
    · have HZ := Lib.hid (show ∀ w', Below w.heap.size w w' → Ending.returned (.int .i64 0) = .returned (.int .i64 ((procV k at_ (keepN k) : Nat) : Int)) ∧ Below w.heap.size w w' from fun w' h => ⟨by rw [procV_no (and_no2 hpl)]; rfl, h⟩)
      have HPL := Lib.hid hpl
      clear hok hpl hcb hk
      go_enter Tryz.func24, Tryz.ntmps24
      go_wp2_with fail
      generalize w.alloc (.cells #[.slice v.gA k.globals.length v.gc, .slice v.lA k.locks.length v.lc, .slice v.pA k.procs.length v.pc, .slice v.eA k.entry.length v.ec, .slice v.iA k.ins.length v.ic] 28) = W at hbx ⊢
      refine (HW.out _ (hkf.below hbx.1)).mono ?_
      rintro e w1 ⟨g, rfl, hgl, hW, hb1⟩
      have hbx1 := hbx.to hb1
      obtain ⟨hbw, hsz, c0, c1, c2, c3, c4⟩ := id hbx1
      go_wp2_with fail
      refine (isProc_any g v k _ _ hW.kat (by omega)).mono ?_
      rintro e w2 ⟨rfl, rfl⟩
      have hb2 := Below.refl w1.heap.size w1
      rw [HPL.out]
      go_wp2_with fail
      go_ret
      exact HZ.out _ (below_trans' hbw hb2)
    · obtain ⟨a, rfl, hal⟩ : ∃ a : Nat, at_ = a ∧ a < k.procs.length := by
        simp only [Bool.and_eq_true, decide_eq_true_eq] at hpl
        exact ⟨at_.toNat, by omega, by omega⟩
      have HY := Lib.hid (procV_yes (H := keepN k) hok hal)
      have HPL := Lib.hid hpl
      clear hok hpl hcb hk
      go_enter Tryz.func24, Tryz.ntmps24
      go_wp2_with fail
      generalize w.alloc (.cells #[.slice v.gA k.globals.length v.gc, .slice v.lA k.locks.length v.lc, .slice v.pA k.procs.length v.pc, .slice v.eA k.entry.length v.ec, .slice v.iA k.ins.length v.ic] 28) = W at hbx ⊢
      refine (HW.out _ (hkf.below hbx.1)).mono ?_
      rintro e w1 ⟨g, rfl, hgl, hW, hb1⟩
      have hbx1 := hbx.to hb1
      obtain ⟨hbw, hsz, c0, c1, c2, c3, c4⟩ := id hbx1
      go_wp2_with fail
      refine (isProc_any g v k _ _ hW.kat (by omega)).mono ?_
      rintro e w2 ⟨rfl, rfl⟩
      have hb2 := Below.refl w1.heap.size w1
      rw [HPL.out]
      clear c0 c1 c2 c3 c4
      have hW2 := hW.below hb2
      have hb02 := below_trans' hbw hb2
      have hbx2 := hbx1.to hb2
      clear hbx1 hbw hsz hb2 hb1 hbx
      have HC := Lib.hid (keepIn_any g v k a w1 HR.out hW2 hal)
      go_wp2_with fail
      refine HC.out.mono ?_
      rintro e w3 ⟨rfl, hb3⟩
      go_wp2_with fail
      go_ret
      exact ⟨ret_int (by rw [HY.out]), below_trans' hb02 hb3⟩

end Go.Proofs.YtkgoajnnkimkaaaGreat
