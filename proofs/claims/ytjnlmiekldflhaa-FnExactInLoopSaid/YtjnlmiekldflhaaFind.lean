/- Contracts of findCalls and findRoots. -/
import Derived.Test.YtjnlmiekldflhaaFindP
set_option linter.unusedSimpArgs false
set_option linter.unusedVariables false
namespace Go.Proofs.Ytjnlmiekldflhaa
open Go.ChangeShapes Go.WideShapes Go.ChangeAt Go.RowKit

set_option maxRecDepth 100000 in
set_option maxHeartbeats 4000000 in
theorem findCalls_any {B : Nat} (g : Nat) (v : CV) (k : Cd) (Al : Option Addr) (cl : Nat) (x6 x7 x8 x9 x10 : Value) (w : World) (hr : Right k) (hk : CodeAt w B v k) (hB : B ≤ g) (hw : WB w g v k (.slice Al k.ins.length cl) x6 x7 x8 x9 x10) (hl : Rd w B Al ((markL k.ins.length (LiveA k)).map bv)) :
    Calls Try.prog 113 #[.pointer (some ⟨g, 0, none⟩)] w fun e w' => e = .returned (.tuple #[]) ∧ ∃ a b c, FC w g v k (.slice Al k.ins.length cl) x9 x10 a b c k.procs.length (tabL k (opsT k 4)) (tabL k (opsT k 5)) (tabL k (fromT k)) w' := by
  have hpl := hr.procs
  have hmk := run_make_row' (P := Try.prog) 23 3 (.int .i64 0) 8 Try.underlying23 info_int rfl .i64 .i64 k.procs.length (by omega) (by omega)
  obtain ⟨c0, c1, c2, c3, c4⟩ := hw.kat
  have hbA : ∀ o : Obj, Below w.heap.size w (((w.alloc o).alloc o).alloc o) := fun o => below_trans' (below_trans' (below_alloc0 _ _) (below_alloc0 _ _)) (below_alloc0 _ _)
  have hwA := hw.below (hbA (.cells (madeCells #[.int .i64 0] k.procs.length) 3))
  have c6 := hwA.cell 6 rfl
  have c7 := hwA.cell 7 rfl
  have c8 := hwA.cell 8 rfl
  have f6 := hwA.free 6
  have f7 := hwA.free 7
  have f8 := hwA.free 8
  have d6 := hw.cell 6 rfl
  have d7 := hw.cell 7 rfl
  have d8 := hw.cell 8 rfl
  have e6 := hw.free 6
  have e7 := hw.free 7
  have e8 := hw.free 8
  clear hbA hwA
  have hgl := hw.lt
  have hgl1 : g < w.heap.size + 1 := by omega
  have hgl2 : g < w.heap.size + 1 + 1 := by omega
  go_enter Try.func113, Try.ntmps113
  go_upto_region 1 with (fail)
  go_cut [] from 17 to 31 (fun w' => Made3 w g v k (.slice Al k.ins.length cl) x9 x10 k.procs.length w')
  case first =>
    go_region
    all_goals go_wp2_with fail
    all_goals go_meet
    all_goals exact made3_of hw (by omega) _ _ _ (by omega) (by omega) (by omega) (by omega) (by omega) (by omega)
  case rest =>
    clear c0 c1 c2 c3 c4 c6 c7 c8 f6 f7 f8 d6 d7 d8 e6 e7 e8 hmk hgl1 hgl2
    obtain ⟨a, b, c, hF⟩ := FC.start hcut hgl
    clear hcut
    have HBW := Lib.hid (fun W (h : w.grownBy W (some g)) => hk.below (below_grown h (by omega) hB))
    have HLW := Lib.hid (fun W (h : w.grownBy W (some g)) => hl.below (below_grown h (by omega) hB))
    have hins := hr.ins
    have HR := Lib.hid hr
    rw [← upd_zero k.procs.length (opsT k 4)] at hF
    have hF1 : FC w g v k (.slice Al k.ins.length cl) x9 x10 a b c k.procs.length (upd k.procs.length 0 (opsT k 4)) (upd k.procs.length 0 (opsT k 5)) (List.replicate k.procs.length 0) wc := by
      have e : upd k.procs.length 0 (opsT k 4) = upd k.procs.length 0 (opsT k 5) := by rw [upd_zero, upd_zero]
      rw [← e]
      rw [upd_zero] at hF ⊢
      exact hF
    clear hF hk hl hr hw
    go_wp2_with fail
    go_loopg [33] k.procs.length (fun l i wr => ∃ p : Nat, p ≤ k.procs.length ∧ l = k.procs.length - p ∧ i = .int .i64 p ∧ FC w g v k (.slice Al k.ins.length cl) x9 x10 a b c k.procs.length (upd k.procs.length p (opsT k 4)) (upd k.procs.length p (opsT k 5)) (List.replicate k.procs.length 0) wr)
    case atStart => exact ⟨0, by omega, by omega, rfl, hF1⟩
    case round =>
      clear hF1
      obtain ⟨p, hp, rfl, rfl, hF⟩ := hrel
      by_cases hlt : p < k.procs.length
      · have HLO := Lib.hid (liveOf_any g v k p wr HR.out (HBW.out _ hF.grown) hF.blk.kat ⟨Al, cl, hF.blk.cell 5 rfl, HLW.out _ hF.grown⟩ hlt)
        have hsw := hF.grown.size
        go_wp2_with fail
        refine HLO.out.mono ?_
        rintro e w1 ⟨An, cn, rfl, hon, hb1⟩
        have hF2 := hF.below hb1
        have hon0 := own_lt hF.rca
        have hon1 := own_lt hF.rsp
        have hon2 := own_lt hF.rfr
        have HXL := Lib.hid (show ∀ x ∈ listN k.ins.length (LiveP k p), x < k.ins.length from fun x hx => (mem_listN.1 hx).1)
        have HO4 := Lib.hid (opsN_all HR.out hlt (o := 4) (.inl rfl))
        have HO5 := Lib.hid (opsN_all HR.out hlt (o := 5) (.inr rfl))
        have HL4 := Lib.hid (fun j => opsN_lt HR.out hlt (o := 4) (.inl rfl) j)
        have HL5 := Lib.hid (fun j => opsN_lt HR.out hlt (o := 5) (.inr rfl) j)
        have hll := listN_len k.ins.length (LiveP k p)
        generalize listN k.ins.length (LiveP k p) = ls at hon HXL HO4 HO5 HL4 HL5 hll ⊢
        clear hF
        go_wp2_with fail
        obtain ⟨wo, rfl⟩ : ∃ wo : World, wo = wr := ⟨_, rfl⟩
        go_loopg [40] ls.length (fun l i wr => ∃ j : Nat, j ≤ ls.length ∧ l = ls.length - j ∧ i = .int .i64 j ∧ wr.ownsRow wo.heap.size 3 1 (.slice An ls.length cn) ls.length (nv ls) ∧
          FC w g v k (.slice Al k.ins.length cl) x9 x10 a b c k.procs.length ((upd k.procs.length p (opsT k 4)).set p (opsN k 4 (ls.take j))) ((upd k.procs.length p (opsT k 5)).set p (opsN k 5 (ls.take j))) (List.replicate k.procs.length 0) wr)
        case atStart =>
          refine ⟨0, by omega, by omega, rfl, hon, ?_⟩
          show FC w g v k (.slice Al k.ins.length cl) x9 x10 a b c k.procs.length ((upd k.procs.length p (opsT k 4)).set p 0) ((upd k.procs.length p (opsT k 5)).set p 0) (List.replicate k.procs.length 0) w1
          rw [upd_set0 hlt, upd_set0 hlt]
          exact hF2
        case round =>
          clear hF2 hon
          obtain ⟨j, hj, rfl, rfl, hon, hF⟩ := hrel
          by_cases hltj : j < ls.length
          · obtain ⟨adn, rfl, hbn, hcj⟩ := (own_rd hon).nat hltj
            have hxl := HXL.out ls[j] (List.getElem_mem hltj)
            have HT4 := Lib.hid (show opsN k 4 (ls.take (j + 1)) = _ from by rw [List.take_succ_eq_append_getElem hltj, opsN_snoc])
            have HT5 := Lib.hid (show opsN k 5 (ls.take (j + 1)) = _ from by rw [List.take_succ_eq_append_getElem hltj, opsN_snoc])
            generalize ls[j] = x at *
            obtain ⟨c0, c1, c2, c3, c4⟩ := hF.blk.kat
            obtain ⟨ai, A', c', eA, hbi, k0, k1, k2, k3, k4, k5, k6, _⟩ := (HBW.out _ hF.grown).full.i.get hxl
            rw [eA] at c4
            rw [opN_eq hxl] at k0
            rw [argN_eq HR.out hxl] at k1
            have z1 : (0 : Int) ≤ (x : Int) := by omega
            have z2 : (x : Int) < (k.ins.length : Int) := by omega
            by_cases h4 : opN k x = 4
            · have hal := argN_lt HR.out hxl (by rw [h4]; decide)
              rw [h4] at k0
              go_wp2_with fail
              have hb2 := below_alloc0 wr (.cells #[.int .i64 4, .int .i64 (argN k x), .int .i64 k.ins[x].term.kind, .int .i64 k.ins[x].term.num, .string k.ins[x].term.name, .slice A' k.ins[x].term.kids.length c', .int .i64 k.ins[x].to] 57)
              have ca1 := box_cell wr #[.int .i64 4, .int .i64 (argN k x), .int .i64 k.ins[x].term.kind, .int .i64 k.ins[x].term.num, .string k.ins[x].term.name, .slice A' k.ins[x].term.kids.length c', .int .i64 k.ins[x].to] 57 1 rfl
              have ca0 := box_cell wr #[.int .i64 4, .int .i64 (argN k x), .int .i64 k.ins[x].term.kind, .int .i64 k.ins[x].term.num, .string k.ins[x].term.name, .slice A' k.ins[x].term.kids.length c', .int .i64 k.ins[x].to] 57 0 rfl
              generalize wr.alloc (.cells #[.int .i64 4, .int .i64 (argN k x), .int .i64 k.ins[x].term.kind, .int .i64 k.ins[x].term.num, .string k.ins[x].term.name, .slice A' k.ins[x].term.kids.length c', .int .i64 k.ins[x].to] 57) = W at hb2 ca1 ca0 ⊢
              have hFW := hF.below hb2
              have honW := own_below hon hb2
              have d6 := hFW.blk.cell 6 rfl
              have hl4 := HL4.out j
              generalize opsN k 4 (ls.take j) = y at *
              have dp := own_at hFW.rca hlt (nv_get (y := y) (by rw [List.getElem?_set, if_pos rfl, if_pos (by rw [upd_len]; exact hlt)]))
              have fp := hFW.rca.frozenAt p
              have y1 : (0 : Int) ≤ (p : Int) := by omega
              have y2 : (p : Int) < (k.procs.length : Int) := by omega
              go_still_tail 13, (by kernel_rfl)
              change wpList _ _ _ _ _ W.drew
              have hFD : FC w g v k (.slice Al k.ins.length cl) x9 x10 a b c k.procs.length ((upd k.procs.length p (opsT k 4)).set p y) ((upd k.procs.length p (opsT k 5)).set p (opsN k 5 (ls.take j))) (List.replicate k.procs.length 0) W.drew := hFW.below ((Below.refl _ _).drew)
              have honD : W.drew.ownsRow wo.heap.size 3 1 (.slice (some adn) ls.length cn) ls.length (nv ls) := honW
              have dpD : W.drew.cell? ⟨a, p, none⟩ = some (.int .i64 (y : Int)) := dp
              have fpD : W.drew.frozen? ⟨a, p, none⟩ = false := fp
              have caD : W.drew.cell? ⟨wr.heap.size, 0, none⟩ = some (.int .i64 4) := ca0
              clear hFW honW dp fp ca0 ca1 d6
              generalize W.drew = W2 at *
              have hna := (own_lt hF.rca).2
              have hna2 : wr.heap.size ≠ a := by omega
              clear hF k0 k1 k2 k3 k4 k5 k6 c0 c1 c2 c3 c4
              go_wp2_with fail
              go_roundg (ls.length - (j + 1))
              case measure => omega
              case rel =>
                have e1 : bits .or .i64 (y : Int) (wrap64 ((2 : Int) ^ min (argN k x) 64)) = ((y ||| 2 ^ argN k x : Nat) : Int) := by
                  rw [Nat.min_eq_left (by omega), shl_one _ (by omega), i64_or_nat _ _ (by omega) (two_pow_lt _ (by omega))]
                have hS := hFD.setA p (y ||| 2 ^ argN k x) e1
                refine ⟨j + 1, by omega, rfl, by go_num, ?_, ?_⟩
                · refine honD.kept (grown_set W2 ⟨a, p, none⟩ _) (.inr fun h1 => ?_)
                  have := (honD.lt a h1).1
                  omega
                · rw [HT4.out, HT5.out, if_pos h4, if_neg (by rw [h4]; decide)]
                  rw [List.set_set] at hS
                  exact hS
            · by_cases h5 : opN k x = 5
              · have e4 : ((5 : Int) == 4) = false := by decide
                have hal := argN_lt HR.out hxl (by rw [h5]; decide)
                rw [h5] at k0
                go_wp2_with fail
                have hb2 := below_alloc0 wr (.cells #[.int .i64 5, .int .i64 (argN k x), .int .i64 k.ins[x].term.kind, .int .i64 k.ins[x].term.num, .string k.ins[x].term.name, .slice A' k.ins[x].term.kids.length c', .int .i64 k.ins[x].to] 57)
                have ca1 := box_cell wr #[.int .i64 5, .int .i64 (argN k x), .int .i64 k.ins[x].term.kind, .int .i64 k.ins[x].term.num, .string k.ins[x].term.name, .slice A' k.ins[x].term.kids.length c', .int .i64 k.ins[x].to] 57 1 rfl
                have ca0 := box_cell wr #[.int .i64 5, .int .i64 (argN k x), .int .i64 k.ins[x].term.kind, .int .i64 k.ins[x].term.num, .string k.ins[x].term.name, .slice A' k.ins[x].term.kids.length c', .int .i64 k.ins[x].to] 57 0 rfl
                generalize wr.alloc (.cells #[.int .i64 5, .int .i64 (argN k x), .int .i64 k.ins[x].term.kind, .int .i64 k.ins[x].term.num, .string k.ins[x].term.name, .slice A' k.ins[x].term.kids.length c', .int .i64 k.ins[x].to] 57) = W at hb2 ca1 ca0 ⊢
                have hFW := hF.below hb2
                have honW := own_below hon hb2
                have d6 := hFW.blk.cell 7 rfl
                have hl4 := HL5.out j
                generalize opsN k 5 (ls.take j) = y at *
                have dp := own_at hFW.rsp hlt (nv_get (y := y) (by rw [List.getElem?_set, if_pos rfl, if_pos (by rw [upd_len]; exact hlt)]))
                have fp := hFW.rsp.frozenAt p
                have y1 : (0 : Int) ≤ (p : Int) := by omega
                have y2 : (p : Int) < (k.procs.length : Int) := by omega
                go_still_tail 13, (by kernel_rfl)
                change wpList _ _ _ _ _ W.drew
                have hFD : FC w g v k (.slice Al k.ins.length cl) x9 x10 a b c k.procs.length ((upd k.procs.length p (opsT k 4)).set p (opsN k 4 (ls.take j))) ((upd k.procs.length p (opsT k 5)).set p y) (List.replicate k.procs.length 0) W.drew := hFW.below ((Below.refl _ _).drew)
                have honD : W.drew.ownsRow wo.heap.size 3 1 (.slice (some adn) ls.length cn) ls.length (nv ls) := honW
                have dpD : W.drew.cell? ⟨b, p, none⟩ = some (.int .i64 (y : Int)) := dp
                have fpD : W.drew.frozen? ⟨b, p, none⟩ = false := fp
                have caD : W.drew.cell? ⟨wr.heap.size, 0, none⟩ = some (.int .i64 5) := ca0
                clear hFW honW dp fp ca0 ca1 d6
                generalize W.drew = W2 at *
                have hna := (own_lt hF.rsp).2
                have hna2 : wr.heap.size ≠ b := by omega
                clear hF k0 k1 k2 k3 k4 k5 k6 c0 c1 c2 c3 c4
                go_wp2_with fail
                go_roundg (ls.length - (j + 1))
                case measure => omega
                case rel =>
                  have e1 : bits .or .i64 (y : Int) (wrap64 ((2 : Int) ^ min (argN k x) 64)) = ((y ||| 2 ^ argN k x : Nat) : Int) := by
                    rw [Nat.min_eq_left (by omega), shl_one _ (by omega), i64_or_nat _ _ (by omega) (two_pow_lt _ (by omega))]
                  have hS := hFD.setB p (y ||| 2 ^ argN k x) e1
                  refine ⟨j + 1, by omega, rfl, by go_num, ?_, ?_⟩
                  · refine honD.kept (grown_set W2 ⟨b, p, none⟩ _) (.inr fun h1 => ?_)
                    have := (honD.lt b h1).1
                    omega
                  · rw [HT4.out, HT5.out, if_neg (by rw [h5]; decide), if_pos h5]
                    rw [List.set_set] at hS
                    exact hS
              · have e4 : (opN k x == 4) = false := by simpa using h4
                have e5 : (opN k x == 5) = false := by simpa using h5
                have hF3 : ∀ o, FC w g v k (.slice Al k.ins.length cl) x9 x10 a b c k.procs.length ((upd k.procs.length p (opsT k 4)).set p (opsN k 4 (ls.take (j + 1)))) ((upd k.procs.length p (opsT k 5)).set p (opsN k 5 (ls.take (j + 1)))) (List.replicate k.procs.length 0) (wr.alloc o) := fun o => by
                  rw [HT4.out, HT5.out, if_neg h4, if_neg h5]
                  exact hF.below (below_alloc0 _ _)
                have HF3 := Lib.hid hF3
                clear h4 h5 hF3
                go_wp2_with fail
                go_roundg (ls.length - (j + 1))
                case measure => omega
                case rel => exact ⟨j + 1, by omega, rfl, by go_num, own_below hon (below_alloc0 _ _), HF3.out _⟩
          · /- done -/
            obtain rfl : j = ls.length := by omega
            go_wp2_with fail
            go_roundg (k.procs.length - (p + 1))
            case measure => omega
            case rel =>
              refine ⟨p + 1, by omega, rfl, by go_num, ?_⟩
              rw [List.take_length, HO4.out, HO5.out] at hF
              have u4 := upd_set (f := opsT k 4) hlt
              have u5 := upd_set (f := opsT k 5) hlt
              rw [← u4, ← u5]
              exact hF
      · obtain rfl : p = k.procs.length := by omega
        rw [upd_all, upd_all] at hF
        have h256 := pow_le_256 HR.out
        have HTL := Lib.hid (show ∀ x ∈ tabL k (opsT k 4), x < 2 ^ 60 from fun x hx => by
          obtain ⟨q, _, rfl⟩ := List.mem_map.1 hx
          have h1 : opsT k 4 q < 2 ^ k.procs.length := setN_lt _ _
          have h2 : (256 : Nat) ≤ 2 ^ 60 := by decide
          omega)
        have HUN := Lib.hid (show ∀ W fr (h : FC w g v k (.slice Al k.ins.length cl) x9 x10 a b c k.procs.length (tabL k (opsT k 4)) (tabL k (opsT k 5)) fr W) (s : Nat), s < 2 ^ k.procs.length →
            Calls Try.prog 134 #[.slice (some ⟨a, 0, none⟩) k.procs.length k.procs.length, .int .i64 s] W fun e w' => e = .returned (.int .i64 (unionN (tabL k (opsT k 4)) (bitsTo s 62) : Nat)) ∧ Below W.heap.size W w' from fun W fr h s hs => by
          have := unionOf_any (some ⟨a, 0, none⟩) k.procs.length (tabL k (opsT k 4)) s W (own_rd h.rca) (by rw [tabL_len]; omega) HTL.out (by rw [tabL_len]; exact hs)
          rw [tabL_len] at this
          exact this)
        have HUL := Lib.hid (fun l => union_lt (k := k) (opsT k 4) (fun q => setN_lt _ _) l)
        have HFS := Lib.hid (fun (p s : Nat) h => from_step HR.out (p := p) (s := s) h)
        have HFX := Lib.hid (fun (p s : Nat) hp h0 hs h hc => from_fix HR.out (p := p) (s := s) hp h0 hs h hc)
        rw [← upd_zero k.procs.length (fromT k)] at hF
        clear HTL
        go_wp2_with fail
        go_loopg [87] k.procs.length (fun l i wr => ∃ p : Nat, p ≤ k.procs.length ∧ l = k.procs.length - p ∧ i = .int .i64 p ∧ FC w g v k (.slice Al k.ins.length cl) x9 x10 a b c k.procs.length (tabL k (opsT k 4)) (tabL k (opsT k 5)) (upd k.procs.length p (fromT k)) wr)
        case atStart => exact ⟨0, by omega, by omega, rfl, hF⟩
        case round =>
          clear hF
          obtain ⟨p, hp, rfl, rfl, hF⟩ := hrel
          by_cases hlt : p < k.procs.length
          · have e1 := shl_one p (by omega)
            have hp2 : 2 ^ p < 2 ^ k.procs.length := Nat.pow_lt_pow_right (by omega) hlt
            have HSH := Lib.hid e1
            clear e1
            go_wp2_with fail
            rw [HSH.out]
            obtain ⟨wo, rfl⟩ : ∃ wo : World, wo = wr := ⟨_, rfl⟩
            go_loopg [8, 9] (2 * (2 ^ k.procs.length - 2 ^ p) + 1) (fun l sv ag wr => ∃ (s : Nat) (again : Bool), sv = .int .i64 s ∧ ag = .bool again ∧ s < 2 ^ k.procs.length ∧ s.testBit p = true ∧ (∀ q, s.testBit q = true → FromP k p q) ∧ (again = false → s ||| unionN (tabL k (opsT k 4)) (bitsTo s 62) = s) ∧
              l = 2 * (2 ^ k.procs.length - s) + (if again then 1 else 0) ∧ FC w g v k (.slice Al k.ins.length cl) x9 x10 a b c k.procs.length (tabL k (opsT k 4)) (tabL k (opsT k 5)) (upd k.procs.length p (fromT k)) wr)
            case atStart => exact ⟨2 ^ p, true, rfl, rfl, hp2, Nat.testBit_two_pow_self, fun q hq => by
                rw [Nat.testBit_two_pow] at hq
                exact .inl (of_decide_eq_true hq).symm, by simp, rfl, hF⟩
            case round =>
              clear hF
              obtain ⟨s, again, rfl, rfl, hs, h0, hall, hcl, rfl, hF⟩ := hrel
              have H0 := Lib.hid h0
              have HALL := Lib.hid hall
              have HCL := Lib.hid hcl
              clear h0 hall hcl
              cases again
              · have d8 := hF.blk.cell 8 rfl
                obtain ⟨u, hu⟩ := own_has hF.rfr (j := p) (by omega)
                have fp := hF.rfr.frozenAt p
                have y1 : (0 : Int) ≤ (p : Int) := by omega
                have y2 : (p : Int) < (k.procs.length : Int) := by omega
                go_wp2_with fail
                go_roundg (k.procs.length - (p + 1))
                case measure => omega
                case rel =>
                  refine ⟨p + 1, by omega, rfl, by go_num, ?_⟩
                  have hS := hF.setC p s rfl
                  have e := HFX.out p s hlt H0.out hs HALL.out (HCL.out (by simp))
                  rw [e] at hS
                  have u3 := upd_set (f := fromT k) hlt
                  rw [u3] at hS
                  rw [e]
                  exact hS
              · have d6 := hF.blk.cell 6 rfl
                go_wp2_with fail
                refine (HUN.out _ _ hF s hs).mono ?_
                rintro e w1 ⟨rfl, hb1⟩
                have hF1 := hF.below hb1
                have hul := HUL.out (bitsTo s 62)
                have HST := Lib.hid (HFS.out p s HALL.out)
                have HCC := Lib.hid (show s ||| unionN (tabL k (opsT k 4)) (bitsTo s 62) = s → s ||| unionN (tabL k (opsT k 4)) (bitsTo s 62) = s from id)
                generalize hu : unionN (tabL k (opsT k 4)) (bitsTo s 62) = u at hul HST HCC ⊢
                have HU := Lib.hid hu
                clear hF d6 hu
                have eor := i64_or_nat s u (by omega) (by omega)
                have hol : s ||| u < 2 ^ k.procs.length := Nat.or_lt_two_pow hs hul
                have hge : s ≤ s ||| u := Nat.left_le_or
                have HTB := Lib.hid (show (s ||| u).testBit p = true from by rw [Nat.testBit_or, H0.out]; rfl)
                generalize hm : s ||| u = m at hol hge HTB HST eor HCC
                have HM := Lib.hid hm
                clear hm
                by_cases hmm : m = s
                · subst hmm
                  have en : ((m : Int) != (m : Int)) = false := by simp
                  go_wp2_with fail
                  go_roundg (2 * (2 ^ k.procs.length - m) + (if false then 1 else 0))
                  case measure => simp
                  case rel => exact ⟨m, false, rfl, rfl, hol, HTB.out, HST.out, fun _ => by rw [HU.out]; exact HM.out, rfl, hF1⟩
                · have en : ((m : Int) != (s : Int)) = true := by simp; omega
                  have hlt2 : s < m := by omega
                  clear hmm
                  go_wp2_with fail
                  go_roundg (2 * (2 ^ k.procs.length - m) + (if true then 1 else 0))
                  case measure => simp; omega
                  case rel => exact ⟨m, true, rfl, rfl, hol, HTB.out, HST.out, fun h => by simp at h, rfl, hF1⟩
          · obtain rfl : p = k.procs.length := by omega
            rw [upd_all] at hF
            go_wp2_with fail
            go_end0
            exact ⟨rfl, a, b, c, hF⟩
end Go.Proofs.Ytjnlmiekldflhaa
