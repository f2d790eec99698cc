/- Contract of compSets: the parts, told one by one. -/
import Derived.Test.YtkgoajnnkimkaaaK6
set_option linter.unusedSimpArgs false
set_option linter.unusedVariables false
namespace Go.Proofs.Ytkgoajnnkimkaaa
open Go.ChangeShapes Go.WideShapes Go.ChangeAt Go.RowKit

/-- The first to be told is found, or none up to i. -/
def Found (W : Nat → Nat → Bool) (n : Nat) (D : List Bool) (i : Nat) (fd : Int) (p l : Nat) : Prop :=
  (fd = -1 ∧ l = n - i + 1 ∧ ∀ x, x < i → okB W n D x = false) ∨ (∃ f : Nat, fd = (f : Int) ∧ i = f + 1 ∧ l = 0 ∧ firstB W n D = some f ∧ Bits n (both2 W f) p)

set_option maxRecDepth 100000 in
set_option maxHeartbeats 8000000 in
theorem compSets_any {B : Nat} (n : Nat) (A : Option Addr) (c : Nat) (es : List (Int × Int)) (w : World) (hn : n ≤ 60) (he : Rd w B A (arcCells es)) (hl : es.length ≤ 2000) (hin : ArcsIn n es) :
    Calls Try.prog 29 #[.int .i64 n, .slice A es.length c] w (NewComps w (compsN (wsh (arcB es) n) n)) := by
  have HC := Lib.hid (closure_any n A c es w hn he hl hin)
  have HT := Lib.hid (fun i m j (hm : m < n) => wsh_trans (arcB es) n i m j hm)
  clear he hin
  go_enter Try.func29, Try.ntmps29
  go_wp2_with fail
  refine HC.out.mono ?_
  rintro e w1 ⟨xs, hR, At, ct, rfl, hot, hb1⟩
  clear HC
  generalize hWe : wsh (arcB es) n = W at hR HT ⊢
  have HWE := Lib.hid hWe
  clear hWe
  have hrt := own_rd hot
  have hs1 := hb1.size
  have HR := Lib.hid hR
  have hlen := hR.len
  clear hot hR
  go_wp2_with fail
  go_loopg [6, 7] n (fun l v d wr => ∃ (D : List Bool) (pre : List (List Nat)) (rr : List (Option Addr × Nat × List Value)) (dn : Nat), l = unm D ∧ Told W n D pre ∧ d = .int .u64 (dn : Int) ∧ Bits n (mkd D) dn ∧ RI wr w1.heap.size v rr pre ∧ Below w1.heap.size w1 wr)
  case atStart => exact ⟨_, [], [], 0, (unm_start n).symm, Told.start W n, rfl, Bits.zero fun j _ => mkd_replicate n j, RI.nil _ _, Below.refl _ _⟩
  case round =>
    obtain ⟨D, pre, rr, dn, rfl, hT, rfl, hD, hI, hb⟩ := hrel
    have HTD := Lib.hid hT
    have HD := Lib.hid hD
    have HI := Lib.hid hI
    clear hT hD hI
    have hdn := HD.out.lt hn
    go_wp2_with fail
    go_loopg [8, 9, 10] (n + 1) (fun l fd p i wr' => ∃ (x : Nat) (f : Int) (pt : Nat), wr' = wr ∧ x ≤ n ∧ fd = .int .i64 f ∧ p = .int .u64 (pt : Int) ∧ i = .int .i64 x ∧ Found W n D x f pt l ∧ pt < 1152921504606846976)
    case atStart => exact ⟨0, -1, 0, rfl, by omega, rfl, rfl, rfl, .inl ⟨rfl, by omega, fun x hx => by omega⟩, by omega⟩
    case round =>
      obtain ⟨x, f, pt, rfl, hx, rfl, rfl, rfl, hF, hpt⟩ := hrel
      rcases hF with ⟨rfl, rfl, hno⟩ | ⟨g, rfl, rfl, rfl, hfi, hpb⟩
      · have HNO := Lib.hid hno
        clear hno
        by_cases hxl : x < n
        · have z1 : (0 : Int) ≤ (x : Int) := by omega
          have z2 : (x : Int) < (n : Int) := by omega
          have ed := shr_bit_u dn x (by omega)
          rw [HD.out.get hxl] at ed
          cases hm : mkd D x
          · rw [hm] at ed
            have HM := Lib.hid hm
            clear hm
            have hxx : x < xs.length := by omega
            obtain ⟨ad, rfl, _, hcx⟩ := (hrt.below hb).u64 hxx
            rw [gu_get hxx] at hcx
            have hgx := HR.out.lt hn hxl
            have e1 := shl_u x (by omega)
            go_wp2_with fail
            clear e1
            go_loopg [9, 36] n (fun l p i wr' => ∃ (j q : Nat), wr' = wr ∧ j ≤ n ∧ l = n - j ∧ p = .int .u64 (q : Int) ∧ i = .int .i64 j ∧ Bits n (fun y => decide (y = x) || (decide (y < j) && (W x y && W y x))) q)
            case atStart => exact ⟨0, 2 ^ x, rfl, by omega, by omega, by rw [two_pow_cast], rfl, (Bits.one hxl).congr fun j _ => by simp⟩
            case round =>
              obtain ⟨j, q, rfl, hj, rfl, rfl, rfl, hq⟩ := hrel
              have HQ := Lib.hid hq
              clear hq
              by_cases hjl : j < n
              · have hjx : j < xs.length := by omega
                obtain ⟨ad', ea, _, hcj⟩ := (hrt.below hb).u64 hjx
                cases ea
                rw [gu_get hjx] at hcj
                have hgj := HR.out.lt hn hjl
                have hql := HQ.out.lt hn
                have z3 : (0 : Int) ≤ (j : Int) := by omega
                have z4 : (j : Int) < (n : Int) := by omega
                have eb1 := shr_bit_u (gu xs x) j (by omega)
                have eb2 := shr_bit_u (gu xs j) x (by omega)
                rw [(HR.out.bits hxl).get hjl] at eb1
                rw [(HR.out.bits hjl).get hxl] at eb2
                have eor := or_pow_u q j (by omega) (by omega)
                cases hw1 : W x j <;> cases hw2 : W j x
                all_goals
                  rw [hw1] at eb1
                  rw [hw2] at eb2
                  have HW1 := Lib.hid hw1
                  have HW2 := Lib.hid hw2
                  clear hw1 hw2
                  go_wp2_with fail
                  go_roundg (n - (j + 1))
                  case measure => omega
                all_goals
                  first
                  | exact ⟨j + 1, q, rfl, by omega, rfl, rfl, by go_num, HQ.out.congr fun y _ => by
                      by_cases e : y = j
                      · subst e; simp [HW1.out, HW2.out]
                      · have : decide (y < j + 1) = decide (y < j) := by rw [decide_eq_decide]; omega
                        rw [this]⟩
                  | exact ⟨j + 1, q ||| 2 ^ j, rfl, by omega, rfl, rfl, by go_num, (HQ.out.put hjl).congr fun y _ => by
                      by_cases e : y = j
                      · subst e; simp [HW1.out, HW2.out]
                      · have : decide (y < j + 1) = decide (y < j) := by rw [decide_eq_decide]; omega
                        simp [this, e]⟩
              · obtain rfl : j = n := by omega
                have HP := Lib.hid (show Bits j (both2 W x) q from HQ.out.congr fun y hy => by simp [both2, hy])
                clear HQ
                have hql := HP.out.lt hn
                have ea1 := u64_andNot_nat (gu xs x) q (by omega) (by omega)
                have ea2 := u64_andNot_nat (gu xs x &&& (18446744073709551615 - q)) dn (Nat.lt_of_le_of_lt Nat.and_le_left (by omega)) (by omega)
                have ea3 := ok_bits (HR.out.bits hxl) HP.out HD.out hn HM.out
                cases hok : okB W j D x
                · rw [hok] at ea3
                  have HOK := Lib.hid hok
                  clear hok
                  go_wp2_with fail
                  go_roundg (j - (x + 1) + 1)
                  case measure => omega
                  case rel => exact ⟨x + 1, -1, q, rfl, by omega, rfl, rfl, by go_num, .inl ⟨rfl, rfl, fun y hy => by
                    by_cases e : y = x
                    · subst e; exact HOK.out
                    · exact HNO.out y (by omega)⟩, hql⟩
                · rw [hok] at ea3
                  have HOK := Lib.hid hok
                  clear hok
                  go_wp2_with fail
                  go_roundg 0
                  case measure => omega
                  case rel => exact ⟨x + 1, (x : Int), q, rfl, by omega, rfl, rfl, by go_num, .inr ⟨x, rfl, rfl, rfl, firstB_of hxl HOK.out HNO.out, HP.out⟩, hql⟩
          · rw [hm] at ed
            have HM := Lib.hid hm
            clear hm
            go_wp2_with fail
            go_roundg (n - (x + 1) + 1)
            case measure => omega
            case rel => exact ⟨x + 1, -1, pt, rfl, by omega, rfl, rfl, by go_num, .inl ⟨rfl, rfl, fun y hy => by
              by_cases e : y = x
              · subst e; simp [okB, HM.out]
              · exact HNO.out y (by omega)⟩, hpt⟩
        · obtain rfl : x = n := by omega
          have HN := Lib.hid (HTD.out.done (firstB_none HNO.out))
          have HL := Lib.hid HI.out.len
          obtain ⟨co, Ao, rfl⟩ : ∃ co Ao, _ := by
            obtain ⟨Ao, co, e⟩ := HI.out.l.form
            exact ⟨co, Ao, e⟩
          go_wp2_with fail
          go_ret
          refine ⟨Ao, co, rr, ?_, ?_, ?_⟩
          · rw [HWE.out, ← HN.out, ← HL.out]
            rfl
          · have h1 : RI wr w.heap.size (.slice Ao rr.length co) rr pre := ⟨HI.out.l.mono hs1, HI.out.c⟩
            rw [HWE.out, ← HN.out, ← HL.out]
            exact h1
          · exact below_trans' hb1 hb
      · have hgn := (firstB_some hfi).1
        have z1 : ¬ ((g : Int) < 0) := by omega
        have HFI := Lib.hid hfi
        have HPB := Lib.hid hpb
        clear hfi hpb
        have hsz := hb.size
        have hle : rr.length ≤ 60 := by have := HI.out.len; have := HTD.out.room; omega
        by_cases hgl : (((g + 1 : Nat)) : Int) < (n : Int)
        all_goals
          go_wp2_with fail
          go_loopg [12, 79] n (fun l v i wr' => ∃ j : Nat, j ≤ n ∧ l = n - j ∧ i = .int .i64 j ∧ wr'.ownsRow wr.heap.size 3 1 v (partTo W g j).length ((numI (partTo W g j)).map iv) ∧ Below wr.heap.size wr wr')
          case atStart => exact ⟨0, by omega, by omega, rfl, World.ownsRow_nil _ _ _ _, Below.refl _ _⟩
          case round =>
            rename_i wr'
            obtain ⟨j, hj, rfl, rfl, ho, hb2⟩ := hrel
            obtain ⟨cp, Ap, rfl⟩ : ∃ cp Ap, _ := by
              obtain ⟨Ap, cp, e⟩ := own_form ho
              exact ⟨cp, Ap, e⟩
            have hpl := partTo_len W g j
            have hsz2 := hb2.size
            have HS := Lib.hid (partTo_succ W g j)
            by_cases hjl : j < n
            · have z3 : (0 : Int) ≤ (j : Int) := by omega
              have z4 : (j : Int) < (n : Int) := by omega
              have ep := shr_bit_u pt j (by omega)
              rw [HPB.out.get hjl] at ep
              cases hbt : both2 W g j
              · rw [hbt] at ep
                have HBT := Lib.hid hbt
                clear hbt
                go_wp2_with fail
                go_roundg (n - (j + 1))
                case measure => omega
                case rel => exact ⟨j + 1, by omega, rfl, by go_num, by rw [HS.out, if_neg (by rw [HBT.out]; simp)]; exact ho, hb2⟩
              · rw [hbt] at ep
                have HBT := Lib.hid hbt
                clear hbt
                go_wp2_with (at_builtin; refine append_int rfl _ _ rfl ho rfl rfl (by omega) hsz2 ?_; intro A' c' w3 ho3 hg3 _)
                go_roundg (n - (j + 1))
                case measure => omega
                case rel =>
                  refine ⟨j + 1, by omega, rfl, by go_num, ?_, below_append hb2 ho hg3 hsz2 (Nat.le_refl _)⟩
                  rw [HS.out, if_pos HBT.out, List.length_append]
                  have : numI (partTo W g j ++ [j]) = numI (partTo W g j) ++ [(j : Int)] := by simp [numI]
                  rw [this]
                  exact ho3
            · obtain rfl : j = n := by omega
              have hI2 := HI.out.below hb2
              have hbb := below_trans' hb hb2
              obtain ⟨hst, hun, hpos⟩ := HTD.out.step HT.out HFI.out
              have HST := Lib.hid hst
              have hor := HD.out.or HPB.out
              have HOR := Lib.hid hor
              have eor := u64_or_nat dn pt (by omega) (by omega)
              have HUN := Lib.hid hun
              have HPOS := Lib.hid hpos
              clear hst hor hun hpos
              obtain ⟨co, Ao, rfl⟩ : ∃ co Ao, _ := by
                obtain ⟨Ao, co, e⟩ := hI2.l.form
                exact ⟨co, Ao, e⟩
              have HI2 := Lib.hid hI2
              clear hI2
              go_wp2_with (at_builtin; refine append_rowI Ap (partTo W g j).length cp rfl _ _ rfl HI2.out.l.f rfl rfl (by omega) hbb.size ?_; intro A4 c4 w4 ho4 hg4 hv4)
              go_roundg (unm (tell W j g D))
              case measure => have := HUN.out; have := HPOS.out; omega
              case rel =>
                refine ⟨tell W j g D, pre ++ [partL W j g], rr ++ [(Ap, cp, (numI (partTo W g j)).map iv)], dn ||| pt, rfl, HST.out, rfl, HOR.out.congr fun y hy => by rw [mkd_tell hy], ?_, below_append hbb HI2.out.l.f hg4 hbb.size (Nat.le_refl _)⟩
                exact HI2.out.add ho rfl (by omega) (Apt.fresh ho HI.out.l.f (Nat.le_refl _)) (fun q hq => by
                  obtain ⟨i, hi, rfl⟩ := List.getElem_of_mem hq
                  exact Apt.fresh ho (HI.out.l.r i hi) (Nat.le_refl _)) ho4 hg4 hv4
end Go.Proofs.Ytkgoajnnkimkaaa
