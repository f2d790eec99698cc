/- Contract of the reference's CompsOf. -/
import Derived.Test.YtkgoajnnkimkaaaK8
set_option linter.unusedSimpArgs false
set_option linter.unusedVariables false
namespace Go.Proofs.Ytkgoajnnkimkaaa
open Go.ChangeShapes Go.WideShapes Go.ChangeAt Go.RowKit

/-- What is told, and the part of x up to j. -/
def tellTo (W : Nat → Nat → Bool) (n x : Nat) (D : List Bool) (j : Nat) : List Bool := (List.range n).map fun y => mkd D y || (decide (y < j) && both2 W x y)
section
variable {W : Nat → Nat → Bool} {n x j : Nat} {D : List Bool}
theorem tellTo_len : (tellTo W n x D j).length = n := by simp [tellTo]
theorem mkd_tellTo {y : Nat} (hy : y < n) : mkd (tellTo W n x D j) y = (mkd D y || (decide (y < j) && both2 W x y)) := by simp [tellTo, mkd, hy]
theorem tellTo_zero (h : D.length = n) : tellTo W n x D 0 = D := mkd_ext (by rw [tellTo_len, h]) fun y hy => by
  rw [tellTo_len] at hy
  rw [mkd_tellTo hy]; simp
theorem tellTo_full : tellTo W n x D n = tell W n x D := mkd_ext (by rw [tellTo_len, tell_len]) fun y hy => by
  rw [tellTo_len] at hy
  rw [mkd_tellTo hy, mkd_tell hy, decide_eq_true hy]; simp
theorem tellTo_hit (hj : j < n) (h : both2 W x j = true) : (tellTo W n x D j).set j true = tellTo W n x D (j + 1) := mkd_ext (by simp [tellTo_len]) fun y hy => by
  rw [List.length_set, tellTo_len] at hy
  rw [mkd_set (by rw [tellTo_len]; exact hj), mkd_tellTo hy, mkd_tellTo hy]
  by_cases e : j = y
  · subst e; simp [h]
  · have : decide (y < j + 1) = decide (y < j) := by rw [decide_eq_decide]; omega
    rw [if_neg e, this]
theorem tellTo_miss (h : both2 W x j = false) : tellTo W n x D (j + 1) = tellTo W n x D j := mkd_ext (by rw [tellTo_len, tellTo_len]) fun y hy => by
  rw [tellTo_len] at hy
  rw [mkd_tellTo hy, mkd_tellTo hy]
  by_cases e : y = j
  · subst e; simp [h]
  · have : decide (y < j + 1) = decide (y < j) := by rw [decide_eq_decide]; omega
    rw [this]
/-- x stands, as far as those up to j go. -/
def okTo (W : Nat → Nat → Bool) (D : List Bool) (x j : Nat) (b : Bool) : Prop :=
  (b = true ∧ ∀ y, y < j → W x y = true → W y x = true ∨ mkd D y = true) ∨ (b = false ∧ ∃ y, y < n ∧ W x y = true ∧ W y x = false ∧ mkd D y = false)
theorem okTo_end {b : Bool} (h : okTo (n := n) W D x n b) (h0 : mkd D x = false) : okB W n D x = b := by
  rcases h with ⟨rfl, h⟩ | ⟨rfl, y, hy, h1, h2, h3⟩
  · exact okB_iff.2 ⟨h0, h⟩
  · cases e : okB W n D x
    · rfl
    · have := (okB_iff.1 e).2 y hy h1
      rw [h2, h3] at this
      simp at this
theorem okTo_false (h : okTo (n := n) W D x j false) (h0 : mkd D x = false) : okB W n D x = false := by
  rcases h with ⟨h1, _⟩ | ⟨_, y, hy, h1, h2, h3⟩
  · cases h1
  · exact okTo_end (.inr ⟨rfl, y, hy, h1, h2, h3⟩) h0
theorem okTo_next (hj : j < n) (h : okTo (n := n) W D x j true) : okTo (n := n) W D x (j + 1) (!W x j || (W j x || mkd D j)) := by
  rcases h with ⟨_, h⟩ | ⟨h, _⟩
  · cases e : (!W x j || (W j x || mkd D j))
    · simp only [Bool.or_eq_false_iff, Bool.not_eq_false'] at e
      exact .inr ⟨rfl, j, hj, e.1, e.2.1, e.2.2⟩
    · refine .inl ⟨rfl, fun y hy hw => ?_⟩
      by_cases e2 : y = j
      · subst e2
        rw [hw] at e
        simpa using e
      · exact h y (by omega) hw
  · cases h
end
theorem rd_mark {w : World} {B g : Nat} {D : List Bool} (h : Rd w B (some ⟨g, 0, none⟩) (D.map bv)) {j : Nat} (hj : j < D.length) : w.cell? ⟨g, j, none⟩ = some (.bool (mkd D j)) := by
  obtain ⟨ad, e, _, hc⟩ := h.bool hj
  cases e
  rw [add_mk, mkd_get hj] at hc
  exact hc
theorem rows_new {rr : List (Option Addr × Nat × List Value)} {lo : Nat} {A : Option Addr} {c : Nat} {xs : List Value} (h : ∀ p ∈ rr, ∀ x, (rowV p).ownBlock = some x → lo ≤ x) (hn : ∀ x, (Value.slice A xs.length c).ownBlock = some x → lo ≤ x) :
    ∀ p ∈ rr ++ [(A, c, xs)], ∀ x, (rowV p).ownBlock = some x → lo ≤ x := fun p hp x hx => by
  rcases List.mem_append.1 hp with hp | hp
  · exact h p hp x hx
  · rw [List.mem_singleton.1 hp] at hx
    exact hn x hx

set_option maxRecDepth 100000 in
set_option maxHeartbeats 16000000 in
theorem compsOf_s {B : Nat} (n : Int) (A : Option Addr) (c : Nat) (es : List (Int × Int)) (w : World) (he : Rd w B A (arcCells es)) (hl : es.length ≤ 1048576) (hf : Fits n) :
    Calls Try.prog 6 #[.int .i64 n, .slice A es.length c] w (NewComps w (compsOfN n es)) := by
  have he0 := he.full
  have hbx := below_alloc0 w (.cells #[] 35)
  have hlit : RI (w.alloc (.cells #[] 35)) w.heap.size (.slice (some ⟨w.heap.size, 0, none⟩) 0 0) [] [] := ⟨RL.lit (Nat.le_refl _), rfl⟩
  have hsz : (w.alloc (.cells #[] 35)).heap.size = w.heap.size + 1 := by simp
  have HSZ := Lib.hid hsz
  have HG := Lib.hid (fun V (hV : Below w.heap.size w V) => graphOk_s n A c es V (he0.below hV) hl hf)
  clear hsz
  cases hg : graphB n es
  · rw [hg] at HG
    have HZ := Lib.hid (show compsOfN n es = [] from by rw [compsOfN, hg]; rfl)
    clear hg he he0
    go_enter Try.func6, Try.ntmps6
    go_wp2_with fail
    generalize w.alloc (.cells #[] 35) = w0 at hbx hlit HSZ ⊢
    refine (HG.out _ hbx).mono ?_
    rintro e w1 ⟨rfl, rfl⟩
    go_wp2_with fail
    go_ret
    rw [HZ.out]
    exact ⟨_, _, [], rfl, hlit, hbx⟩
  rw [hg] at HG
  obtain ⟨m, rfl, hm, hl2, hin⟩ := graph_yes hg
  have HZ := Lib.hid (show compsOfN m es = compsN (wsh (arcB es) m) m from by rw [compsOfN, hg]; rfl)
  have HC := Lib.hid (fun V (hV : Below w.heap.size w V) => l11Reach_any m A c es V hm (he0.below hV) hl2 hin)
  have HT := Lib.hid (fun i x j (hx : x < m) => wsh_trans (arcB es) m i x j hx)
  clear hg he he0 hf hin
  go_enter Try.func6, Try.ntmps6
  go_wp2_with fail
  generalize w.alloc (.cells #[] 35) = w0 at hbx hlit HSZ ⊢
  refine (HG.out _ hbx).mono ?_
  rintro e w1 ⟨rfl, hw⟩
  obtain rfl : w0 = w1 := hw
  go_wp2_with fail
  refine (HC.out _ hbx).mono ?_
  rintro e w1 ⟨Aw, cw, rrw, rfl, hway, hb1⟩
  generalize hWe : wsh (arcB es) m = W at hway HT HZ
  clear hWe HG HC
  have hs1 := hb1.size
  go_wp2_with (at_make; refine make_bools _ rfl _ _ rfl m rfl rfl (by omega) ?_; intro w2 hown2 hb2)
  have hs2 := hb2.size
  have hs2' := (hown2.lt _ rfl).2
  have hb02 := below_trans' hb1 hb2
  have hlit2 := hlit.below hb02
  have hbw := below_trans' hbx hb02
  have h01 : w.heap.size < w0.heap.size := by rw [HSZ.out]; omega
  have HWAY := Lib.hid (fun V (hV : Fq (fun b => b = w.heap.size ∨ b = w1.heap.size) w2 V) i j (hi : i < m) (hj : j < m) => RB.later hway (S := fun b => b = w.heap.size ∨ b = w1.heap.size) (fun x hx1 hx2 h => by rcases h with h | h <;> omega) ((Fq.of_below hb2).trans hV) hi hj)
  have hgw : w.heap.size < w1.heap.size := by omega
  generalize w1.heap.size = gt at hown2 HWAY hgw hs2' ⊢
  clear hway hb1 hb2 hlit hbx hb02 hs1 hs2
  go_wp2_with fail
  go_loopg [5, 8] m (fun l v lf wr => ∃ (D : List Bool) (pre : List (List Nat)) (rr : List (Option Addr × Nat × List Value)), l = unm D ∧ lf = .int .i64 (unm D : Nat) ∧ Told W m D pre ∧ RI wr w.heap.size v rr pre ∧ wr.ownsRow gt 4 1 (.slice (some ⟨gt, 0, none⟩) m m) m (D.map bv) ∧
    Fq (fun b => b = w.heap.size ∨ b = gt) w2 wr ∧ (∀ x, v.ownBlock = some x → x = w.heap.size ∨ w2.heap.size ≤ x) ∧ (∀ p ∈ rr, ∀ x, (rowV p).ownBlock = some x → w2.heap.size ≤ x) ∧ Below w.heap.size w wr)
  case atStart =>
    refine ⟨_, [], [], (unm_start m).symm, by rw [unm_start], Told.start W m, hlit2, hown2, Fq.refl _ _, fun x hx => ?_, fun p hp => by simp at hp, hbw⟩
    injection hx with hx
    exact .inl hx.symm
  case round =>
    clear hown2 hlit2 hbw
    obtain ⟨D, pre, rr, rfl, rfl, hT, hI, ho, hq, hv, hrr, hb⟩ := hrel
    have HTD := Lib.hid hT
    have HI := Lib.hid hI
    have HO := Lib.hid ho
    have HQ := Lib.hid hq
    have HV := Lib.hid hv
    have HRR := Lib.hid hrr
    have hul := unm_le D
    have hDl := hT.whole.1
    have HDL := Lib.hid hDl
    have hum : unm D ≤ m := by omega
    have hsz := hb.size
    have hqs := hq.size
    clear hT hI ho hq hv hrr hul hDl
    obtain ⟨u, hue⟩ : ∃ u, u = unm D := ⟨_, rfl⟩
    rw [← hue] at hum ⊢
    have HUE := Lib.hid hue
    clear hue
    cases u with
    | zero =>
      have hu : unm D = 0 := HUE.out.symm
      have HN := Lib.hid (show pre = compsN W m from by have := HTD.out.all; rw [hu] at this; simpa [compsF] using this)
      have HL := Lib.hid HI.out.len
      obtain ⟨co, Ao, rfl⟩ : ∃ co Ao, _ := by
        obtain ⟨Ao, co, e⟩ := HI.out.l.form
        exact ⟨co, Ao, e⟩
      clear hu
      go_wp2_with fail
      go_ret
      refine ⟨Ao, co, rr, ?_, ?_, hb⟩
      · rw [HZ.out, ← HN.out, ← HL.out]
        rfl
      · rw [HZ.out, ← HN.out, ← HL.out]
        exact HI.out
    | succ ud =>
      obtain ⟨x0, hx0, hm0⟩ := unm_pos HDL.out (show 0 < unm D by have := HUE.out; omega)
      obtain ⟨xo, hxo, hoko⟩ := ok_exists (W := W) HT.out hx0 hm0
      have HOKO := Lib.hid hoko
      clear hm0 hoko
      obtain ⟨co, Ao, rfl⟩ : ∃ co Ao, _ := by
        obtain ⟨Ao, co, e⟩ := HI.out.l.form
        exact ⟨co, Ao, e⟩
      go_wp2_with fail
      go_loopg [5, 8, 9, 10, 11, 12, 13] m (fun l v lf i y10 y11 y12 y13 wr' => ∃ x : Nat, wr' = wr ∧ v = .slice Ao rr.length co ∧ lf = .int .i64 ((ud + 1 : Nat) : Int) ∧ x ≤ m ∧ l = m - x ∧ i = .int .i64 x ∧ ∀ y, y < x → okB W m D y = false)
      case atStart => exact ⟨0, rfl, rfl, rfl, by omega, by omega, rfl, fun y hy => by omega⟩
      case round =>
        obtain ⟨x, rfl, rfl, rfl, hx, rfl, rfl, hno⟩ := hrel
        have HNO := Lib.hid hno
        clear hno
        have hxm : x < m := by
          rcases Nat.lt_or_ge x m with h | h
          · exact h
          · have := HNO.out xo (by omega)
            rw [HOKO.out] at this
            simp at this
        have htx := rd_mark (own_rd HO.out) (j := x) (by rw [HDL.out]; exact hxm)
        have zx : (0 : Int) ≤ (x : Int) := by omega
        have zx2 : (x : Int) < (m : Int) := by omega
        cases hmx : mkd D x
        · rw [hmx] at htx
          have HMX := Lib.hid hmx
          clear hmx
          go_wp2_with fail
          clear htx
          go_loopg [10, 11] m (fun l ok i wr' => ∃ (j : Nat) (b : Bool), wr' = wr ∧ j ≤ m ∧ l = m - j ∧ ok = .bool b ∧ i = .int .i64 j ∧ okTo (n := m) W D x j b)
          case atStart => exact ⟨0, true, rfl, by omega, by omega, rfl, rfl, .inl ⟨rfl, fun y hy => by omega⟩⟩
          case round =>
            obtain ⟨j, b, rfl, hj, rfl, rfl, rfl, hok⟩ := hrel
            have HOK := Lib.hid hok
            clear hok
            by_cases hgo : b = true ∧ j < m
            · obtain ⟨rfl, hjm⟩ := hgo
              obtain ⟨g, gr, cr, rfl, w1a, w1b⟩ := HWAY.out _ HQ.out x j hxm hjm
              obtain ⟨g', gr', cr', e', w2a, w2b⟩ := HWAY.out _ HQ.out j x hjm hxm
              cases e'
              have htj := rd_mark (own_rd HO.out) (j := j) (by rw [HDL.out]; exact hjm)
              have zj : (0 : Int) ≤ (j : Int) := by omega
              have zj2 : (j : Int) < (m : Int) := by omega
              have HN := Lib.hid (okTo_next hjm HOK.out)
              cases h1 : W x j <;> cases h2 : W j x <;> cases h3 : mkd D j
              all_goals
                rw [h1] at w1b
                rw [h2] at w2b
                rw [h3] at htj
                rw [h1, h2, h3] at HN
                clear h1 h2 h3
                go_wp2_with fail
                go_roundg (m - (j + 1))
                case measure => omega
                case rel => exact ⟨j + 1, _, rfl, by omega, rfl, rfl, by go_num, HN.out⟩
            · cases b
              · have HF := Lib.hid (okTo_false HOK.out HMX.out)
                clear hgo
                by_cases hjm : (j : Int) < (m : Int)
                all_goals
                  go_wp2_with fail
                  go_roundg (m - (x + 1))
                  case measure => omega
                  case rel => exact ⟨x + 1, rfl, rfl, rfl, by omega, rfl, by go_num, fun y hy => by
                    by_cases e : y = x
                    · subst e; exact HF.out
                    · exact HNO.out y (by omega)⟩
              · obtain rfl : j = m := by
                  rcases Nat.lt_or_ge j m with h | h
                  · exact absurd ⟨rfl, h⟩ hgo
                  · omega
                have HF := Lib.hid (okTo_end HOK.out HMX.out)
                clear hgo HOK hx0 hxo
                have hbp := below_alloc0 wr (.cells #[] 3)
                have hop : (wr.alloc (.cells #[] 3)).ownsRow wr.heap.size 3 1 (.slice (some ⟨wr.heap.size, 0, none⟩) 0 0) 0 (((numI (partTo W x 0))).map iv) := World.ownsRow_lit _ #[] 0 (Nat.le_refl _) (by simp) rfl
                have hwp : Below w.heap.size w (wr.alloc (.cells #[] 3)) := below_alloc hb (Nat.le_refl _) _
                go_wp2_with fail
                generalize wr.alloc (.cells #[] 3) = wp at hbp hop hwp ⊢
                have hgtw : gt < wr.heap.size := Nat.lt_of_lt_of_le hs2' hqs
                go_loopg [12, 13] j (fun l v i wr' => ∃ y : Nat, y ≤ j ∧ l = j - y ∧ i = .int .i64 y ∧ wr'.ownsRow wr.heap.size 3 1 v (partTo W x y).length ((numI (partTo W x y)).map iv) ∧
                  wr'.ownsRow gt 4 1 (.slice (some ⟨gt, 0, none⟩) j j) j ((tellTo W j x D y).map bv) ∧ Fq (fun b => b = gt) wr wr' ∧ Below w.heap.size w wr')
                case atStart => exact ⟨0, by omega, by omega, rfl, hop, by rw [tellTo_zero HDL.out]; exact own_below HO.out hbp, Fq.of_below hbp, hwp⟩
                case round =>
                  clear hop hbp hwp
                  rename_i wr'
                  obtain ⟨y, hy, rfl, rfl, hop, hot, hfq, hbw⟩ := hrel
                  obtain ⟨cp, Ap, rfl⟩ : ∃ cp Ap, _ := by
                    obtain ⟨Ap, cp, e⟩ := own_form hop
                    exact ⟨cp, Ap, e⟩
                  have HOP := Lib.hid hop
                  have HOT := Lib.hid hot
                  have HFQ := Lib.hid hfq
                  have hpl := partTo_len W x y
                  have hszp := hfq.size
                  have hapt : Apt (.slice Ap (partTo W x y).length cp) (.slice (some ⟨gt, 0, none⟩) j j) := fun z h1 h2 => by
                    injection h2 with h2
                    have := (HOP.out.lt z h1).1
                    simp at h2
                    omega
                  have HAPT := Lib.hid hapt
                  have HPS := Lib.hid (partTo_succ W x y)
                  clear hop hot hfq hapt
                  by_cases hyj : y < j
                  · obtain ⟨g, gr, cr, rfl, w1a, w1b⟩ := HWAY.out _ (HQ.out.trans (HFQ.out.mono fun b h => .inr h)) x y hxm hyj
                    obtain ⟨g', gr', cr', e', w2a, w2b⟩ := HWAY.out _ (HQ.out.trans (HFQ.out.mono fun b h => .inr h)) y x hyj hxm
                    cases e'
                    have zj : (0 : Int) ≤ (y : Int) := by omega
                    have zj2 : (y : Int) < (j : Int) := by omega
                    have htl := rd_mark (own_rd HOT.out) (j := y) (by rw [tellTo_len]; exact hyj)
                    have fzt := HOT.out.frozenAt y
                    cases hbt : both2 W x y
                    · have hne : ((y : Int) == (x : Int)) = false := by
                        have : ¬ y = x := fun h => by subst h; rw [both2_refl] at hbt; cases hbt
                        simp; omega
                      have HBT := Lib.hid hbt
                      have HTM := Lib.hid (tellTo_miss (n := j) (D := D) hbt)
                      have hbb : W x y = false ∨ W x y = true ∧ W y x = false := by
                        cases h1 : W x y <;> cases h2 : W y x <;> simp [both2, h1, h2] at hbt ⊢
                      clear hbt
                      rcases hbb with h1 | ⟨h1, h2⟩
                      · rw [h1] at w1b
                        clear h1
                        go_wp2_with fail
                        go_roundg (j - (y + 1))
                        case measure => omega
                        case rel => exact ⟨y + 1, by omega, rfl, by go_num, by rw [HPS.out, if_neg (by rw [HBT.out]; simp)]; exact HOP.out, by rw [HTM.out]; exact HOT.out, HFQ.out, hbw⟩
                      · rw [h1] at w1b
                        rw [h2] at w2b
                        clear h1 h2
                        go_wp2_with fail
                        go_roundg (j - (y + 1))
                        case measure => omega
                        case rel => exact ⟨y + 1, by omega, rfl, by go_num, by rw [HPS.out, if_neg (by rw [HBT.out]; simp)]; exact HOP.out, by rw [HTM.out]; exact HOT.out, HFQ.out, hbw⟩
                    · have HBT := Lib.hid hbt
                      have HTH := Lib.hid (tellTo_hit (n := j) (D := D) hyj hbt)
                      have hbb : ((y : Int) == (x : Int)) = true ∨ ((y : Int) == (x : Int)) = false ∧ W x y = true ∧ W y x = true := by
                        by_cases e : y = x
                        · exact .inl (by simp [e])
                        · refine .inr ⟨by simp; omega, ?_⟩
                          simpa [both2, e] using hbt
                      clear hbt
                      rcases hbb with hne | ⟨hne, h1, h2⟩
                      all_goals
                        first | (rw [h1] at w1b; rw [h2] at w2b; clear h1 h2) | skip
                        go_wp2_with (at_builtin; refine append_int rfl _ _ rfl HOP.out rfl rfl (by omega) hszp ?_; intro A3 c3 w3 ho3 hg3 hv3; have hot3 := apt_kept HOT.out hg3 HAPT.out.swap; have htl := rd_mark (own_rd hot3) (j := y) (by rw [tellTo_len]; exact hyj); have fzt := hot3.frozenAt y)
                        go_roundg (j - (y + 1))
                        case measure => omega
                        case rel =>
                          obtain ⟨s1, s2⟩ := hot3.stored y (bv true)
                          rw [set_map, HTH.out] at s1
                          have s2' : w3.grownBy (w3.setCell ⟨gt, y, none⟩ (.bool true)) (Value.slice (some ⟨gt, 0, none⟩) j j).ownBlock := s2
                          have hap3 : Apt (.slice A3 ((partTo W x y).length + 1) c3) (.slice (some ⟨gt, 0, none⟩) j j) := fun z h1 h2 => by
                            injection h2 with h2
                            have := (ho3.lt z h1).1
                            simp at h2
                            omega
                          have hbw3 := below_append hbw HOP.out hg3 (by omega) (by omega)
                          refine ⟨y + 1, by omega, rfl, by go_num, ?_, s1, ?_, hbw3.setCell (by show w.heap.size ≤ gt; omega) _⟩
                          · rw [HPS.out, if_pos HBT.out, List.length_append]
                            have : numI (partTo W x y ++ [y]) = numI (partTo W x y) ++ [(y : Int)] := by simp [numI]
                            rw [this]
                            exact apt_kept ho3 s2' hap3
                          · refine (HFQ.out.grown hg3 fun z hz => .inr ?_).grown s2 fun z hz => .inl ?_
                            · exact (HOP.out.lt z hz).1
                            · injection hz with hz; exact hz.symm
                  · obtain rfl : y = j := by omega
                    have HTF := Lib.hid (tellTo_full (W := W) (n := y) (x := x) (D := D))
                    have hfb := firstB_of hxm HF.out HNO.out
                    obtain ⟨hst, hun, hpos⟩ := HTD.out.step HT.out hfb
                    have HST := Lib.hid hst
                    have HPOS := Lib.hid hpos
                    have elf : ((ud : Nat) : Int) + 1 - ((partTo W x y).length : Int) = ((unm (tell W y x D) : Nat) : Int) := by
                      have : (partTo W x y).length = (partL W y x).length := rfl
                      have := HUE.out
                      omega
                    have HUN := Lib.hid hun
                    have hI2 := HI.out.fq HFQ.out (fun z hz h => by rcases HV.out z hz with h1 | h1 <;> omega) (fun p hp z hz h => by have := HRR.out p hp z hz; omega)
                    have hle : rr.length ≤ 60 := by have := HI.out.len; have := HTD.out.room; omega
                    have HI2 := Lib.hid hI2
                    have hbs := hbw.size
                    clear hst hun hpos hfb hI2
                    have hao : Apt (.slice (some ⟨gt, 0, none⟩) y y) (.slice Ao rr.length co) := fun z h1 h2 => by
                      injection h1 with h1
                      simp at h1
                      rcases HV.out z h2 with h3 | h3 <;> omega
                    have HAO := Lib.hid hao
                    clear hao
                    go_wp2_with (at_builtin; refine append_rowI Ap (partTo W x y).length cp rfl _ _ rfl HI2.out.l.f rfl rfl (by omega) hbs ?_; intro A4 c4 w4 ho4 hg4 hv4)
                    go_roundg (unm (tell W y x D))
                    case measure => have := HUN.out; have := HPOS.out; have := HUE.out; omega
                    case rel =>
                      have hlo : ∀ z, (Value.slice Ap (partTo W x y).length cp).ownBlock = some z → w2.heap.size ≤ z := fun z hz => by have := (HOP.out.lt z hz).1; omega
                      refine ⟨tell W y x D, pre ++ [partL W y x], rr ++ [(Ap, cp, (numI (partTo W x y)).map iv)], rfl, rfl, HST.out, ?_, ?_, ?_, ?_, ?_, below_append hbw HI2.out.l.f hg4 hbs (Nat.le_refl _)⟩
                      · exact HI2.out.add HOP.out rfl (by omega) (fun z h1 h2 => by
                          have h5 := (HOP.out.lt z h1).1
                          rcases HV.out z h2 with h3 | h3
                          · omega
                          · have := (HI.out.l.f.lt z h2).2; omega) (fun q hq => by
                          obtain ⟨i, hi, rfl⟩ := List.getElem_of_mem hq
                          exact Apt.fresh HOP.out (HI.out.l.r i hi) (Nat.le_refl _)) ho4 hg4 hv4
                      · rw [← HTF.out]
                        exact apt_kept HOT.out hg4 HAO.out
                      · refine (HQ.out.trans (HFQ.out.mono fun b h => .inr h)).grown hg4 fun z hz => ?_
                        rcases HV.out z hz with h3 | h3
                        · exact .inl (.inl h3)
                        · exact .inr h3
                      · intro z hz
                        rcases hv4 with e4 | e4
                        · exact HV.out z (e4.symm.trans hz)
                        · rw [e4] at hz
                          injection hz with hz
                          exact .inr (by omega)
                      · refine rows_new HRR.out fun z hz => hlo z ?_
                        have : ((numI (partTo W x y)).map iv).length = (partTo W x y).length := by simp [numI]
                        rw [this] at hz
                        exact hz
        · rw [hmx] at htx
          have HMX := Lib.hid hmx
          clear hmx
          go_wp2_with fail
          clear htx
          go_loopg [10, 11] 0 (fun l ok i wr' => wr' = wr ∧ l = 0 ∧ ok = .bool false ∧ i = .int .i64 0)
          case atStart => exact ⟨rfl, rfl, rfl, rfl⟩
          case round =>
            obtain ⟨rfl, rfl, rfl, rfl⟩ := hrel
            have z0 : (0 : Int) < (m : Int) := by omega
            go_wp2_with fail
            go_roundg (m - (x + 1))
            case measure => omega
            case rel => exact ⟨x + 1, rfl, rfl, rfl, by omega, rfl, by go_num, fun y hy => by
              by_cases e : y = x
              · subst e; simp [okB, HMX.out]
              · exact HNO.out y (by omega)⟩
end Go.Proofs.Ytkgoajnnkimkaaa
