/- Contract of met: the places that a thread may come to. -/
import Derived.Test.YtkgoajnnkimkaaaGreatE4
import Derived.Test.YtkgoajnnkimkaaaGreatD12
import Derived.Test.YtkgoajnnkimkaaaGreatQ2
set_option linter.unusedSimpArgs false
set_option linter.unusedVariables false
namespace Go.Proofs.YtkgoajnnkimkaaaGreat
open Go.ChangeShapes Go.WideShapes Go.ChangeAt Go.RowKit

/-- The roots in rs are marked; what is marked may be met. -/
structure MetR (k : Cd) (rs : List Nat) (ms : List Bool) : Prop where
  len : ms.length = k.ins.length
  snd : ∀ a, mkd ms a = true → MetP k a
  root : ∀ r ∈ rs, mkd ms (ent k r) = true
theorem metR0 (k : Cd) : MetR k [] (List.replicate k.ins.length false) :=
  ⟨by simp, fun a h => by rw [mkd_replicate] at h; simp at h, fun r h => by simp at h⟩
theorem MetR.put {k : Cd} {rs : List Nat} {ms : List Bool} (h : MetR k rs ms) (hr : Right k) {r : Nat} (hrt : RootP k r) : MetR k (rs ++ [r]) (ms.set (ent k r) true) := by
  have hel := ent_lt hr (root_lt hr hrt)
  refine ⟨by simp [h.len], fun a ha => ?_, fun q hq => ?_⟩
  · rw [mkd_set (by rw [h.len]; exact hel)] at ha
    split at ha
    · rename_i e; subst e; exact .root hrt
    · exact h.snd a ha
  · rw [mkd_set (by rw [h.len]; exact hel)]
    split
    · rfl
    · rename_i e
      rcases List.mem_append.1 hq with h1 | h1
      · exact h.root q h1
      · exact absurd (by rw [List.mem_singleton.1 h1]) e
theorem MetR.full {k : Cd} (hr : Right k) {ms : List Bool} (h : MetR k (listN k.procs.length (RootP k)) ms) : MetS k ms :=
  ⟨h.len, h.snd, fun r hrt => h.root r (mem_listN.2 ⟨root_lt hr hrt, hrt⟩)⟩
/-- As ms0, or with more marks. -/
structure MtR (ms0 : List Bool) (new : Bool) (ms : List Bool) : Prop where
  no : new = false → ms = ms0
  yes : new = true → unm ms < unm ms0
theorem MtR.refl (ms : List Bool) : MtR ms false ms := ⟨fun _ => rfl, fun h => by simp at h⟩
theorem MtR.put {ms0 ms : List Bool} {new : Bool} (h : MtR ms0 new ms) {x : Nat} (hx : x < ms.length) : MtR ms0 (new || !mkd ms x) (ms.set x true) := by
  cases hm : mkd ms x
  · rw [Bool.not_false, Bool.or_true]
    refine ⟨fun h => by simp at h, fun _ => ?_⟩
    have h1 := unm_set hx hm
    cases new
    · rw [← h.no rfl]; omega
    · have := h.yes rfl; omega
  · have e : ms.set x true = ms := mks_antisymm (mks_set ms x) ⟨by simp, fun b hb => by
      rw [mkd_set hx] at hb
      split at hb
      · rename_i e; subst e; exact hm
      · exact hb⟩
    rw [e, Bool.not_true, Bool.or_false]; exact h
theorem MK.lt {W : World} {base bo ba gm n : Nat} {ms : List Bool} {new : Bool} (h : MK W base bo ba gm n ms new) : bo < W.heap.size ∧ ba < W.heap.size ∧ gm < W.heap.size ∧ base ≤ gm :=
  ⟨(Array.getElem?_eq_some_iff.1 h.out).1, (Array.getElem?_eq_some_iff.1 h.again).1, (own_lt h.rm).2, (own_lt h.rm).1⟩

set_option maxRecDepth 100000 in
set_option maxHeartbeats 16000000 in
theorem met_any {B : Nat} (g : Nat) (v : CV) (k : Cd) (w : World) (hr : Right k) (hW : WAt w B g v k) :
    Calls Tryz.prog 118 #[.pointer (some ⟨g, 0, none⟩)] w (NewMarks w (markL k.ins.length (MetP k))) := by
  have hmf : ∀ (fn : Fn) (first cap : Array Value) (w : World), (Instr.makeFunc fn first cap).run Tryz.prog w = .ok (.func fn first cap) w := fun _ _ _ _ => rfl
  have hWf := hW.full
  have hkf := hWf.code
  have hins := hr.ins
  have hpl := hr.procs
  have HEL := Lib.hid hr.entry
  have HR := Lib.hid hr
  have HKT := Lib.hid (fun W (hb : Below w.heap.size w W) => hWf.kat.to hb)
  have HKC := Lib.hid (fun W (hb : Below w.heap.size w W) => hkf.below hb)
  have HNXT := Lib.hid (fun a (ha : a < k.ins.length) W (hb : Below w.heap.size w W) => nextIn_any g v k a W hr (hkf.below hb) (hWf.kat.to hb) ha)
  have HEN := Lib.hid (fun p (hp : p < k.procs.length) W (hb : Below w.heap.size w W) => (show Calls Tryz.prog 162 #[.agg #[.slice v.gA k.globals.length v.gc, .slice v.lA k.locks.length v.lc, .slice v.pA k.procs.length v.pc, .slice v.eA k.entry.length v.ec, .slice v.iA k.ins.length v.ic], .int .i64 (p : Int)] W fun e w' => e = .returned (.int .i64 ((fin k p : Nat) : Int)) ∧ Below W.heap.size W w' from by
    have h1 := endOfProc_any v k p W (hkf.below hb) (by omega) (by have := hr.entry; omega) (by omega)
    rw [hr.fin_eq p hp] at h1
    exact h1))
  have HBB := Lib.hid (fun W => (show Calls Tryz.prog 102 #[.int .i64 (rootsN k : Nat)] W (NewNats W (listN k.procs.length (RootP k))) from by
    have HB := bitsOf_nats (rootsN k) W (two60 hr (setN_lt _ _))
    rw [show bitsTo (rootsN k) 62 = listN k.procs.length (RootP k) from bitsTo_setN (by omega)] at HB
    exact HB))
  have HRS := Lib.hid (show ∀ r ∈ listN k.procs.length (RootP k), RootP k r from fun r hrr => (mem_listN.1 hrr).2)
  have HECL := Lib.hid (fun p (hp : p < k.procs.length) W (hb : Below w.heap.size w W) => entry_cell hr (hkf.below hb).full hp)
  have HFULL := Lib.hid (fun ms (h : MetR k (listN k.procs.length (RootP k)) ms) => h.full hr)
  have HSTOP := Lib.hid (fun ms (h : MetS k ms) hf => h.stop hr hf)
  have hrl := listN_len k.procs.length (RootP k)
  have h9 := hWf.roots
  have h0n : 0 < k.ins.length := (by
    have hm := List.length_pos_of_mem hr.main
    have := hr.lt 0 hm
    omega)
  obtain ⟨ai, eA⟩ : ∃ ai, v.iA = some ai := (by
    obtain ⟨ai, A', c', eA, _⟩ := hkf.full.i.get h0n
    exact ⟨ai, eA⟩)
  have HEA := Lib.hid eA
  clear eA
  obtain ⟨c0, c1, c2, c3, c4⟩ := hWf.kat
  clear hr hW hkf hWf
  generalize rootsN k = rn at *
  generalize listN k.procs.length (RootP k) = rs at *
  go_enter Tryz.func118, Tryz.ntmps118
  go_wp2_with (at_make; refine make_bools _ rfl _ _ rfl k.ins.length rfl rfl (by omega) ?_; intro w1 hown hb1; have h9' := cell_below (below_alloc0 w1 (.cells #[.slice (some ⟨w.heap.size, 0, none⟩) k.ins.length k.ins.length] 87)) (cell_below hb1 h9))
  have n1 := heap_alloc_new w1 (.cells #[.slice (some ⟨w.heap.size, 0, none⟩) k.ins.length k.ins.length] 87)
  have b1 := below_alloc0 w1 (.cells #[.slice (some ⟨w.heap.size, 0, none⟩) k.ins.length k.ins.length] 87)
  have hbo0 := hb1.size
  have hX1 := (own_lt hown).2
  have hown2 := own_below hown b1
  have hb2 := below_trans' hb1 b1
  have hbo2 : w1.heap.size < (w1.alloc (.cells #[.slice (some ⟨w.heap.size, 0, none⟩) k.ins.length k.ins.length] 87)).heap.size := by simp
  generalize w1.alloc (.cells #[.slice (some ⟨w.heap.size, 0, none⟩) k.ins.length k.ins.length] 87) = w2 at *
  generalize w1.heap.size = bo at *
  clear h9' h9 hown hb1 b1 c0 c1 c2 c3 c4
  refine (HBB.out _).mono ?_
  rintro e w3 ⟨Ab, cb, rfl, hob, hb3⟩
  have n3 := (hb3.block bo hbo2).trans n1
  have hown3 := own_below hown2 hb3
  have hX2 := (own_lt hown2).2
  have hb03 := below_trans' hb2 hb3
  have hbo3 : bo < w3.heap.size := Nat.lt_of_lt_of_le hbo2 hb3.size
  have HOB := Lib.hid (fun wr (h : Tch w.heap.size w.heap.size w.heap.size w3 wr) => own_rd (h.own hob hX2 hX2 hX2))
  have HB3 := Lib.hid (fun wr (h : Tch w.heap.size w.heap.size w.heap.size w3 wr) => hb03.trans (h.below hb03.size (Nat.le_refl _) (Nat.le_refl _) (Nat.le_refl _)))
  have HO3 := Lib.hid (fun wr (h : Tch w.heap.size w.heap.size w.heap.size w3 wr) => (h.block bo hbo3 (by omega) (by omega) (by omega)).trans n3)
  clear n1 n3 hown2 hb2 hb3 hob hb03
  go_wp2_with fail
  go_loopg [25] rs.length (fun l i wr => ∃ (j : Nat) (ms : List Bool), j ≤ rs.length ∧ l = rs.length - j ∧ i = .int .i64 j ∧ wr.ownsRow w.heap.size 4 1 (.slice (some ⟨w.heap.size, 0, none⟩) k.ins.length k.ins.length) k.ins.length (ms.map bv) ∧ MetR k (rs.take j) ms ∧ Tch w.heap.size w.heap.size w.heap.size w3 wr)
  case atStart => exact ⟨0, _, by omega, by omega, rfl, hown3, metR0 k, Tch.refl _ _ _ _⟩
  case round =>
    clear hown3
    obtain ⟨j, ms, hj, rfl, rfl, ho, hLR, hT⟩ := hrel
    have HLR := Lib.hid hLR
    clear hLR
    have hb0 := HB3.out _ hT
    have hco := HO3.out _ hT
    by_cases hlt : j < rs.length
    · obtain ⟨adr, ear, _, hcr⟩ := (HOB.out _ hT).nat hlt
      have HRT1 := Lib.hid (HRS.out rs[j] (List.getElem_mem hlt))
      have hrp := root_lt HR.out HRT1.out
      have HTK := Lib.hid (show rs.take (j + 1) = rs.take j ++ [rs[j]] from by rw [List.take_succ_eq_append_getElem hlt])
      generalize rs[j] = r at *
      subst ear
      have hpe : r < k.entry.length := by have := HEL.out; omega
      obtain ⟨c0, c1, c2, c3, c4⟩ := HKT.out _ hb0
      obtain ⟨ade, ee, hbe, hce⟩ := HECL.out r hrp _ hb0
      rw [ee] at c3
      clear ee
      have coc := (row_facts hco).1 0 _ rfl
      have hel := ent_lt HR.out hrp
      obtain ⟨u, hu⟩ := own_has ho (j := ent k r) (by omega)
      have fz := ho.frozenAt (ent k r)
      have z1 : (0 : Int) ≤ (j : Int) := by omega
      have z2 : (j : Int) < (rs.length : Int) := by omega
      have y1 : (0 : Int) ≤ (r : Int) := by omega
      have y2 : (r : Int) < (k.entry.length : Int) := by omega
      have x1 : (0 : Int) ≤ (ent k r : Int) := by omega
      have x2 : (ent k r : Int) < (k.ins.length : Int) := by omega
      go_wp2_with fail
      go_still_tail 10, (by kernel_rfl)
      change wpList _ _ _ _ _ wr.drew
      have hoD : wr.drew.ownsRow w.heap.size 4 1 (.slice (some ⟨w.heap.size, 0, none⟩) k.ins.length k.ins.length) k.ins.length (ms.map bv) := ho
      have fzD : wr.drew.frozen? ⟨w.heap.size, ent k r, none⟩ = false := fz
      have huD : wr.drew.cell? ⟨w.heap.size, ent k r, none⟩ = some u := hu
      have hTD := (hT.drew).set (a := ⟨w.heap.size, ent k r, none⟩) (.inl rfl) (.bool true)
      clear c0 c1 c2 c3 c4 hce hcr fz hu coc hco ho hT
      generalize wr.drew = wd at *
      go_wp2_with fail
      obtain ⟨s1, s2⟩ := hoD.stored (ent k r) (bv true)
      rw [bv_set] at s1
      go_roundg (rs.length - (j + 1))
      case measure => omega
      case rel => exact ⟨j + 1, ms.set (ent k r) true, by omega, rfl, by go_num, s1, by rw [HTK.out]; exact HLR.out.put HR.out HRT1.out, hTD⟩
    · obtain rfl : j = rs.length := by omega
      have hlr := HLR.out
      rw [List.take_length] at hlr
      have HS0 := Lib.hid (HFULL.out ms hlr)
      clear hlr HLR
      have bA := below_alloc0 wr (.cells #[.bool true] 4)
      have hbo4 : bo < wr.heap.size := (Array.getElem?_eq_some_iff.1 hco).1
      have hX4 := (own_lt ho).2
      have HMK0 := Lib.hid (show MK (wr.alloc (.cells #[.bool true] 4)) w.heap.size bo wr.heap.size w.heap.size k.ins.length ms true from ⟨(bA.block bo hbo4).trans hco, heap_alloc_new wr _, own_below ho bA, by omega⟩)
      have HB0 := Lib.hid (below_trans' hb0 bA)
      have hle : w.heap.size ≤ wr.heap.size := hb0.size
      clear hco hT ho bA hb0
      go_wp2_with fail
      go_loopg [6] (2 * unm ms + 1) (fun l pa wr => ∃ (ba : Nat) (ms : List Bool) (new : Bool), pa = .pointer (some ⟨ba, 0, none⟩) ∧ MK wr w.heap.size bo ba w.heap.size k.ins.length ms new ∧ MetS k ms ∧ (new = false → (List.range k.ins.length).foldl (mplace k) ms = ms) ∧ l = 2 * unm ms + (if new then 1 else 0) ∧ w.heap.size ≤ ba ∧ Below w.heap.size w wr)
      case atStart => exact ⟨_, ms, true, rfl, HMK0.out, HS0.out, by simp, rfl, hle, HB0.out⟩
      case round =>
        clear HMK0 HB0 HS0 hle
        obtain ⟨ba, ms0, new, rfl, hM, hS, hfx, rfl, hba0, hb⟩ := hrel
        have HFX := Lib.hid hfx
        have HS := Lib.hid hS
        clear hfx hS
        have ca := (row_facts hM.again).1 0 _ rfl
        have fa := (row_facts hM.again).2 0
        have co := (row_facts hM.out).1 0 _ rfl
        cases new
        · have hfin := HSTOP.out _ HS.out (HFX.out rfl)
          have HFI := Lib.hid (show NewMarks w (markL k.ins.length (MetP k)) (.returned (.slice (some ⟨w.heap.size, 0, none⟩) k.ins.length k.ins.length)) wr from by
            rw [← hfin]
            exact ⟨some ⟨w.heap.size, 0, none⟩, k.ins.length, by rw [hM.len], by rw [hM.len]; exact hM.rm, hb⟩)
          clear hfin
          go_wp2_with fail
          go_ret
          exact HFI.out
        · have hMs := hM.say false
          have hbs : Below w.heap.size w (wr.setCell ⟨ba, 0, none⟩ (.bool false)) := hb.trans ((((Tch.refl bo ba w.heap.size wr).set (a := ⟨ba, 0, none⟩) (.inr (.inl rfl)) (.bool false))).below hb.size hbo0 hba0 (Nat.le_refl _))
          obtain ⟨c0, c1, c2, c3, c4⟩ := HKT.out _ hbs
          rw [HEA.out] at c4
          clear HFX hM hb co
          go_wp2_with fail
          clear ca fa c0 c1 c2 c3 c4
          generalize wr.setCell ⟨ba, 0, none⟩ (.bool false) = wj at *
          obtain ⟨wo, rfl⟩ : ∃ wo : World, wo = wr := ⟨_, rfl⟩
          go_loopg [48] k.ins.length (fun l i wr => ∃ (j : Nat) (ms : List Bool) (nw : Bool), j ≤ k.ins.length ∧ l = k.ins.length - j ∧ i = .int .i64 j ∧ MK wr w.heap.size bo ba w.heap.size k.ins.length ms nw ∧ MetS k ms ∧ MtR ms0 nw ms ∧ ms = (List.range j).foldl (mplace k) ms0 ∧ Below w.heap.size w wr)
          case atStart => exact ⟨0, ms0, false, by omega, by omega, rfl, hMs, HS.out, MtR.refl _, rfl, hbs⟩
          case round =>
            clear hMs HS hbs
            obtain ⟨j, ms, nw0, hj, rfl, rfl, hM, hS, hP, hfo, hb⟩ := hrel
            have HFO := Lib.hid hfo
            have HS := Lib.hid hS
            have HP := Lib.hid hP
            clear hfo hS hP
            by_cases hlt : j < k.ins.length
            · obtain ⟨ai', A', c', eA', hbi, k0, k1, k2, k3, k4, k5, k6, _⟩ := (HKC.out _ hb).full.i.get hlt
              rw [HEA.out] at eA'
              injection eA' with eA'
              subst eA'
              have cm := own_at hM.rm (j := j) hlt (u := .bool (mkd ms j)) (by rw [List.getElem?_map, List.getElem?_eq_getElem (by rw [hM.len]; exact hlt), mkd_get (by rw [hM.len]; exact hlt)]; rfl)
              have co := (row_facts hM.out).1 0 _ rfl
              rw [opN_eq hlt] at k0
              rw [argN_eq HR.out hlt] at k1
              have z1 : (0 : Int) ≤ (j : Int) := by omega
              have z2 : (j : Int) < (k.ins.length : Int) := by omega
              cases hmk : mkd ms j
              · rw [hmk] at cm
                have HEQ := Lib.hid (show mplace k ms j = ms from by unfold mplace; rw [if_neg (by rw [hmk]; simp)])
                clear hmk
                have bA := below_alloc0 wr (.cells #[.int .i64 (opN k j), .int .i64 (argN k j), .int .i64 k.ins[j].term.kind, .int .i64 k.ins[j].term.num, .string k.ins[j].term.name, .slice A' k.ins[j].term.kids.length c', .int .i64 k.ins[j].to] 52)
                have hMa := hM.below bA
                have hba := below_trans' hb bA
                have cm' := cell_below bA cm
                have co' := cell_below bA co
                clear bA
                go_wp2_with fail
                go_roundg (k.ins.length - (j + 1))
                case measure => omega
                case rel => exact ⟨j + 1, ms, nw0, by omega, rfl, by go_num, hMa, HS.out, HP.out, by rw [List.range_succ, List.foldl_append, ← HFO.out]; exact HEQ.out.symm, hba⟩
              · rw [hmk] at cm
                have HMT := Lib.hid (HS.out.snd j hmk)
                by_cases h4 : opN k j = 4
                · have hpp := argN_lt HR.out hlt (.inl h4)
                  have hel := ent_lt HR.out hpp
                  have hfl := HR.out.lt _ hpp
                  have hpe : argN k j < k.entry.length := by have := HEL.out; omega
                  have y1 : (0 : Int) ≤ (argN k j : Int) := by omega
                  have y2 : (argN k j : Int) < (k.entry.length : Int) := by omega
                  have HS1 := Lib.hid (HS.out.step (MetP.call HMT.out h4))
                  have HP1 := Lib.hid (HP.out.put (x := ent k (argN k j)) (by rw [hM.len]; exact hel))
                  have HEQ0 := Lib.hid (show mkd (mstep ms (ent k (argN k j))) (fin k (argN k j) - 1) = false → mplace k ms j = mstep ms (ent k (argN k j)) from fun h => by unfold mplace; rw [if_pos hmk, if_pos h4, if_neg (by rw [h]; simp)])
                  have HEQ1 := Lib.hid (show mkd (mstep ms (ent k (argN k j))) (fin k (argN k j) - 1) = true → (nextL k j).foldl mstep (mstep ms (ent k (argN k j))) = mplace k ms j from fun h => by unfold mplace; rw [if_pos hmk, if_pos h4, if_pos h])
                  have HNX1 := Lib.hid (show mkd (mstep ms (ent k (argN k j))) (fin k (argN k j) - 1) = true → ∀ y ∈ nextL k j, y < k.ins.length ∧ MetP k y from fun h y hy => ⟨(nextL_in HR.out hlt hy).1, .back HMT.out h4 (HS1.out.snd _ h) hy⟩)
                  rw [h4] at k0
                  clear hmk h4 HS HP
                  have bA := below_alloc0 wr (.cells #[.int .i64 4, .int .i64 (argN k j), .int .i64 k.ins[j].term.kind, .int .i64 k.ins[j].term.num, .string k.ins[j].term.name, .slice A' k.ins[j].term.kids.length c', .int .i64 k.ins[j].to] 52)
                  have hba := below_trans' hb bA
                  have hMa := hM.below bA
                  have cm' := cell_below bA cm
                  have co' := cell_below bA co
                  have ca1 := box_cell wr #[.int .i64 4, .int .i64 (argN k j), .int .i64 k.ins[j].term.kind, .int .i64 k.ins[j].term.num, .string k.ins[j].term.name, .slice A' k.ins[j].term.kids.length c', .int .i64 k.ins[j].to] 52 1 rfl
                  obtain ⟨c0, c1, c2, c3, c4⟩ := HKT.out _ hba
                  obtain ⟨ade, ee, hbe, hce⟩ := HECL.out (argN k j) hpp _ hba
                  rw [ee] at c3
                  have hbx : wr.heap.size < (wr.alloc (.cells #[.int .i64 4, .int .i64 (argN k j), .int .i64 k.ins[j].term.kind, .int .i64 k.ins[j].term.num, .string k.ins[j].term.name, .slice A' k.ins[j].term.kids.length c', .int .i64 k.ins[j].to] 52)).heap.size := by simp
                  have hlw := hM.lt
                  clear bA ee
                  go_wp2_with fail
                  clear cm co k0 k1 k2 k3 k4 k5 k6 hb hM cm'
                  generalize wr.alloc (.cells #[.int .i64 4, .int .i64 (argN k j), .int .i64 k.ins[j].term.kind, .int .i64 k.ins[j].term.num, .string k.ins[j].term.name, .slice A' k.ins[j].term.kids.length c', .int .i64 k.ins[j].to] 52) = wa at *
                  generalize wr.heap.size = bx at *
                  go_still_tail 10, (by kernel_rfl)
                  change wpList _ _ _ _ _ wa.drew
                  have hMD := hMa.below (Below.refl wa.heap.size wa).drew
                  have HPT := Lib.hid (met1_any bo ba w.heap.size k.ins.length (ent k (argN k j)) ms nw0 wa.drew hMD hel hins)
                  have caD : wa.drew.cell? ⟨bx, 1, none⟩ = some (.int .i64 (argN k j : Int)) := ca1
                  have hbD := hba.drew
                  have hbxD : bx < wa.drew.heap.size := hbx
                  clear ca1 hba hMa hMD c0 c1 c2 c3 c4 hce co' hbx
                  generalize wa.drew = wd at *
                  go_wp2_with fail
                  refine HPT.out.mono ?_
                  rintro e w5 ⟨rfl, hM5, hT5⟩
                  have ca5 : w5.cell? ⟨bx, 1, none⟩ = some (.int .i64 (argN k j : Int)) := (World.cell?_of_block (hT5.block bx hbxD (by omega) (by omega) (by omega))).trans caD
                  have hM5 : MK w5 w.heap.size bo ba w.heap.size k.ins.length (mstep ms (ent k (argN k j))) (nw0 || !mkd ms (ent k (argN k j))) := hM5
                  have HP1 := Lib.hid (show MtR ms0 (nw0 || !mkd ms (ent k (argN k j))) (mstep ms (ent k (argN k j))) from HP1.out)
                  have hb05 := hbD.trans (hT5.below hbD.size hbo0 hba0 (Nat.le_refl _))
                  clear HPT caD hT5 hbD hbxD
                  generalize mstep ms (ent k (argN k j)) = ms1 at *
                  generalize (nw0 || !mkd ms (ent k (argN k j))) = nw1 at *
                  obtain ⟨d0, d1, d2, d3, d4⟩ := HKT.out _ hb05
                  have co5 := (row_facts hM5.out).1 0 _ rfl
                  have hfe : fin k (argN k j) - 1 < k.ins.length := by omega
                  have hsub : ((fin k (argN k j) : Nat) : Int) - 1 = ((fin k (argN k j) - 1 : Nat) : Int) := by omega
                  have cm5 := own_at hM5.rm (j := fin k (argN k j) - 1) hfe (u := .bool (mkd ms1 (fin k (argN k j) - 1))) (by rw [List.getElem?_map, List.getElem?_eq_getElem (by rw [hM5.len]; exact hfe), mkd_get (by rw [hM5.len]; exact hfe)]; rfl)
                  have hwr : IntKind.i64.wrap ((fin k (argN k j) - 1 : Nat) : Int) = ((fin k (argN k j) - 1 : Nat) : Int) := (by
                    generalize fin k (argN k j) - 1 = q at hfe
                    rw [IntKind.wrap_i64]
                    omega)
                  have y3 : (0 : Int) ≤ ((fin k (argN k j) - 1 : Nat) : Int) := by omega
                  have y4 : ((fin k (argN k j) - 1 : Nat) : Int) < (k.ins.length : Int) := by omega
                  cases hme : mkd ms1 (fin k (argN k j) - 1)
                  · rw [hme] at cm5
                    have HEQ := Lib.hid (HEQ0.out hme)
                    clear hme
                    go_wp2_with fail
                    refine wp_region_held_drew (S := fun w' => Below w5.heap.size w5 w') (by kernel_rfl) ((Below.refl _ _).drew) (fun hHeld => ?_)
                    first | (refine hand_skip (i := 0) rfl (by kernel_rfl) (by kernel_rfl) (by kernel_rfl) (fun _ _ _ h => h) (by rfl) (by assumption) ?_) | (refine hand_run (i := 0) (v := ?_) rfl (by kernel_rfl) (by kernel_rfl) (by kernel_rfl) (fun _ _ _ h => h) (by rfl) ?_ (by assumption) ?_; rotate_left; (intro W hW; have f0 := cell_below hW d0; have f1 := cell_below hW d1; have f2 := cell_below hW d2; have f3 := cell_below hW d3; have f4 := cell_below hW d4; have f5 := cell_below hW co5; have f6 := cell_below hW cm5; have f7 := cell_below hW ca5; first | (go_simp; done) | (go_simp; with_reducible rfl)))
                    (try simp only [Act.put, List.setIfInBounds_toArray, List.set_cons_zero, List.set_cons_succ])
                    first | (refine hand_skip (i := 1) rfl (by kernel_rfl) (by kernel_rfl) (by kernel_rfl) (fun _ _ _ h => h) (by rfl) (by assumption) ?_) | (refine hand_run (i := 1) (v := ?_) rfl (by kernel_rfl) (by kernel_rfl) (by kernel_rfl) (fun _ _ _ h => h) (by rfl) ?_ (by assumption) ?_; rotate_left; (intro W hW; have f0 := cell_below hW d0; have f1 := cell_below hW d1; have f2 := cell_below hW d2; have f3 := cell_below hW d3; have f4 := cell_below hW d4; have f5 := cell_below hW co5; have f6 := cell_below hW cm5; have f7 := cell_below hW ca5; first | (go_simp; done) | (go_simp; with_reducible rfl)))
                    (try simp only [Act.put, List.setIfInBounds_toArray, List.set_cons_zero, List.set_cons_succ])
                    first | (refine hand_skip (i := 2) rfl (by kernel_rfl) (by kernel_rfl) (by kernel_rfl) (fun _ _ _ h => h) (by rfl) (by assumption) ?_) | (refine hand_run (i := 2) (v := ?_) rfl (by kernel_rfl) (by kernel_rfl) (by kernel_rfl) (fun _ _ _ h => h) (by rfl) ?_ (by assumption) ?_; rotate_left; (intro W hW; have f0 := cell_below hW d0; have f1 := cell_below hW d1; have f2 := cell_below hW d2; have f3 := cell_below hW d3; have f4 := cell_below hW d4; have f5 := cell_below hW co5; have f6 := cell_below hW cm5; have f7 := cell_below hW ca5; first | (go_simp; done) | (go_simp; with_reducible rfl)))
                    (try simp only [Act.put, List.setIfInBounds_toArray, List.set_cons_zero, List.set_cons_succ])
                    first | (refine hand_skip (i := 3) rfl (by kernel_rfl) (by kernel_rfl) (by kernel_rfl) (fun _ _ _ h => h) (by rfl) (by assumption) ?_) | (refine hand_run (i := 3) (v := ?_) rfl (by kernel_rfl) (by kernel_rfl) (by kernel_rfl) (fun _ _ _ h => h) (by rfl) ?_ (by assumption) ?_; rotate_left; (intro W hW; have f0 := cell_below hW d0; have f1 := cell_below hW d1; have f2 := cell_below hW d2; have f3 := cell_below hW d3; have f4 := cell_below hW d4; have f5 := cell_below hW co5; have f6 := cell_below hW cm5; have f7 := cell_below hW ca5; first | (go_simp; done) | (go_simp; with_reducible rfl)))
                    (try simp only [Act.put, List.setIfInBounds_toArray, List.set_cons_zero, List.set_cons_succ])
                    first | (refine hand_skip (i := 4) rfl (by kernel_rfl) (by kernel_rfl) (by kernel_rfl) (fun _ _ _ h => h) (by rfl) (by assumption) ?_) | (refine hand_run (i := 4) (v := ?_) rfl (by kernel_rfl) (by kernel_rfl) (by kernel_rfl) (fun _ _ _ h => h) (by rfl) ?_ (by assumption) ?_; rotate_left; (intro W hW; have f0 := cell_below hW d0; have f1 := cell_below hW d1; have f2 := cell_below hW d2; have f3 := cell_below hW d3; have f4 := cell_below hW d4; have f5 := cell_below hW co5; have f6 := cell_below hW cm5; have f7 := cell_below hW ca5; first | (go_simp; done) | (go_simp; with_reducible rfl)))
                    (try simp only [Act.put, List.setIfInBounds_toArray, List.set_cons_zero, List.set_cons_succ])
                    first | (refine hand_skip (i := 5) rfl (by kernel_rfl) (by kernel_rfl) (by kernel_rfl) (fun _ _ _ h => h) (by rfl) (by assumption) ?_) | (refine hand_run (i := 5) (v := ?_) rfl (by kernel_rfl) (by kernel_rfl) (by kernel_rfl) (fun _ _ _ h => h) (by rfl) ?_ (by assumption) ?_; rotate_left; (intro W hW; have f0 := cell_below hW d0; have f1 := cell_below hW d1; have f2 := cell_below hW d2; have f3 := cell_below hW d3; have f4 := cell_below hW d4; have f5 := cell_below hW co5; have f6 := cell_below hW cm5; have f7 := cell_below hW ca5; first | (go_simp; done) | (go_simp; with_reducible rfl)))
                    (try simp only [Act.put, List.setIfInBounds_toArray, List.set_cons_zero, List.set_cons_succ])
                    first | (refine hand_skip (i := 6) rfl (by kernel_rfl) (by kernel_rfl) (by kernel_rfl) (fun _ _ _ h => h) (by rfl) (by assumption) ?_) | (refine hand_run (i := 6) (v := ?_) rfl (by kernel_rfl) (by kernel_rfl) (by kernel_rfl) (fun _ _ _ h => h) (by rfl) ?_ (by assumption) ?_; rotate_left; (intro W hW; have f0 := cell_below hW d0; have f1 := cell_below hW d1; have f2 := cell_below hW d2; have f3 := cell_below hW d3; have f4 := cell_below hW d4; have f5 := cell_below hW co5; have f6 := cell_below hW cm5; have f7 := cell_below hW ca5; first | (go_simp; done) | (go_simp; with_reducible rfl)))
                    (try simp only [Act.put, List.setIfInBounds_toArray, List.set_cons_zero, List.set_cons_succ])
                    refine hand_one (i := 7) rfl (by kernel_rfl) (fun K hK => ?_)
                    refine q_yes (by rfl) ?_
                    go_simp
                    refine (HEN.out _ hpp _ (below_trans' hb05 hHeld)).mono ?_
                    rintro e w6 ⟨rfl, hb6⟩
                    refine hK.out _ _ (below_trans' hHeld hb6) (fun hHeld => ?_)
                    clear hK K
                    (try simp only [Act.put, List.setIfInBounds_toArray, List.set_cons_zero, List.set_cons_succ])
                    first | (refine hand_skip (i := 8) rfl (by kernel_rfl) (by kernel_rfl) (by kernel_rfl) (fun _ _ _ h => h) (by rfl) (by assumption) ?_) | (refine hand_run (i := 8) (v := ?_) rfl (by kernel_rfl) (by kernel_rfl) (by kernel_rfl) (fun _ _ _ h => h) (by rfl) ?_ (by assumption) ?_; rotate_left; (intro W hW; have f0 := cell_below hW d0; have f1 := cell_below hW d1; have f2 := cell_below hW d2; have f3 := cell_below hW d3; have f4 := cell_below hW d4; have f5 := cell_below hW co5; have f6 := cell_below hW cm5; have f7 := cell_below hW ca5; first | (go_simp; done) | (go_simp; with_reducible rfl)))
                    (try simp only [Act.put, List.setIfInBounds_toArray, List.set_cons_zero, List.set_cons_succ])
                    first | (refine hand_skip (i := 9) rfl (by kernel_rfl) (by kernel_rfl) (by kernel_rfl) (fun _ _ _ h => h) (by rfl) (by assumption) ?_) | (refine hand_run (i := 9) (v := ?_) rfl (by kernel_rfl) (by kernel_rfl) (by kernel_rfl) (fun _ _ _ h => h) (by rfl) ?_ (by assumption) ?_; rotate_left; (intro W hW; have f0 := cell_below hW d0; have f1 := cell_below hW d1; have f2 := cell_below hW d2; have f3 := cell_below hW d3; have f4 := cell_below hW d4; have f5 := cell_below hW co5; have f6 := cell_below hW cm5; have f7 := cell_below hW ca5; first | (go_simp; done) | (go_simp; with_reducible rfl)))
                    (try simp only [Act.put, List.setIfInBounds_toArray, List.set_cons_zero, List.set_cons_succ])
                    first | (refine hand_skip (i := 10) rfl (by kernel_rfl) (by kernel_rfl) (by kernel_rfl) (fun _ _ _ h => h) (by rfl) (by assumption) ?_) | (refine hand_run (i := 10) (v := ?_) rfl (by kernel_rfl) (by kernel_rfl) (by kernel_rfl) (fun _ _ _ h => h) (by rfl) ?_ (by assumption) ?_; rotate_left; (intro W hW; have f0 := cell_below hW d0; have f1 := cell_below hW d1; have f2 := cell_below hW d2; have f3 := cell_below hW d3; have f4 := cell_below hW d4; have f5 := cell_below hW co5; have f6 := cell_below hW cm5; have f7 := cell_below hW ca5; first | (go_simp; done) | (go_simp; with_reducible rfl)))
                    (try simp only [Act.put, List.setIfInBounds_toArray, List.set_cons_zero, List.set_cons_succ])
                    first | (refine hand_skip (i := 11) rfl (by kernel_rfl) (by kernel_rfl) (by kernel_rfl) (fun _ _ _ h => h) (by rfl) (by assumption) ?_) | (refine hand_run (i := 11) (v := ?_) rfl (by kernel_rfl) (by kernel_rfl) (by kernel_rfl) (fun _ _ _ h => h) (by rfl) ?_ (by assumption) ?_; rotate_left; (intro W hW; have f0 := cell_below hW d0; have f1 := cell_below hW d1; have f2 := cell_below hW d2; have f3 := cell_below hW d3; have f4 := cell_below hW d4; have f5 := cell_below hW co5; have f6 := cell_below hW cm5; have f7 := cell_below hW ca5; first | (go_simp; done) | (go_simp; with_reducible rfl)))
                    (try simp only [Act.put, List.setIfInBounds_toArray, List.set_cons_zero, List.set_cons_succ])
                    refine wpAnyH_done (by kernel_rfl) ?_ _
                    clear d0 d1 d2 d3 d4 co5 cm5 ca5
                    go_wp2_with fail
                    go_roundg (k.ins.length - (j + 1))
                    case measure => omega
                    case rel => exact ⟨j + 1, ms1, nw1, by omega, rfl, by go_num, hM5.below hHeld, HS1.out, HP1.out, by rw [List.range_succ, List.foldl_append, ← HFO.out]; exact HEQ.out.symm, below_trans' hb05 hHeld⟩
                  · rw [hme] at cm5
                    have HEQ := Lib.hid (HEQ1.out hme)
                    have HNX := Lib.hid (HNX1.out hme)
                    clear hme HEQ0 HEQ1 HNX1
                    go_wp2_with fail
                    refine wp_region_held_drew (S := fun w' => Below w5.heap.size w5 w') (by kernel_rfl) ((Below.refl _ _).drew) (fun hHeld => ?_)
                    first | (refine hand_skip (i := 0) rfl (by kernel_rfl) (by kernel_rfl) (by kernel_rfl) (fun _ _ _ h => h) (by rfl) (by assumption) ?_) | (refine hand_run (i := 0) (v := ?_) rfl (by kernel_rfl) (by kernel_rfl) (by kernel_rfl) (fun _ _ _ h => h) (by rfl) ?_ (by assumption) ?_; rotate_left; (intro W hW; have f0 := cell_below hW d0; have f1 := cell_below hW d1; have f2 := cell_below hW d2; have f3 := cell_below hW d3; have f4 := cell_below hW d4; have f5 := cell_below hW co5; have f6 := cell_below hW cm5; have f7 := cell_below hW ca5; first | (go_simp; done) | (go_simp; with_reducible rfl)))
                    (try simp only [Act.put, List.setIfInBounds_toArray, List.set_cons_zero, List.set_cons_succ])
                    first | (refine hand_skip (i := 1) rfl (by kernel_rfl) (by kernel_rfl) (by kernel_rfl) (fun _ _ _ h => h) (by rfl) (by assumption) ?_) | (refine hand_run (i := 1) (v := ?_) rfl (by kernel_rfl) (by kernel_rfl) (by kernel_rfl) (fun _ _ _ h => h) (by rfl) ?_ (by assumption) ?_; rotate_left; (intro W hW; have f0 := cell_below hW d0; have f1 := cell_below hW d1; have f2 := cell_below hW d2; have f3 := cell_below hW d3; have f4 := cell_below hW d4; have f5 := cell_below hW co5; have f6 := cell_below hW cm5; have f7 := cell_below hW ca5; first | (go_simp; done) | (go_simp; with_reducible rfl)))
                    (try simp only [Act.put, List.setIfInBounds_toArray, List.set_cons_zero, List.set_cons_succ])
                    first | (refine hand_skip (i := 2) rfl (by kernel_rfl) (by kernel_rfl) (by kernel_rfl) (fun _ _ _ h => h) (by rfl) (by assumption) ?_) | (refine hand_run (i := 2) (v := ?_) rfl (by kernel_rfl) (by kernel_rfl) (by kernel_rfl) (fun _ _ _ h => h) (by rfl) ?_ (by assumption) ?_; rotate_left; (intro W hW; have f0 := cell_below hW d0; have f1 := cell_below hW d1; have f2 := cell_below hW d2; have f3 := cell_below hW d3; have f4 := cell_below hW d4; have f5 := cell_below hW co5; have f6 := cell_below hW cm5; have f7 := cell_below hW ca5; first | (go_simp; done) | (go_simp; with_reducible rfl)))
                    (try simp only [Act.put, List.setIfInBounds_toArray, List.set_cons_zero, List.set_cons_succ])
                    first | (refine hand_skip (i := 3) rfl (by kernel_rfl) (by kernel_rfl) (by kernel_rfl) (fun _ _ _ h => h) (by rfl) (by assumption) ?_) | (refine hand_run (i := 3) (v := ?_) rfl (by kernel_rfl) (by kernel_rfl) (by kernel_rfl) (fun _ _ _ h => h) (by rfl) ?_ (by assumption) ?_; rotate_left; (intro W hW; have f0 := cell_below hW d0; have f1 := cell_below hW d1; have f2 := cell_below hW d2; have f3 := cell_below hW d3; have f4 := cell_below hW d4; have f5 := cell_below hW co5; have f6 := cell_below hW cm5; have f7 := cell_below hW ca5; first | (go_simp; done) | (go_simp; with_reducible rfl)))
                    (try simp only [Act.put, List.setIfInBounds_toArray, List.set_cons_zero, List.set_cons_succ])
                    first | (refine hand_skip (i := 4) rfl (by kernel_rfl) (by kernel_rfl) (by kernel_rfl) (fun _ _ _ h => h) (by rfl) (by assumption) ?_) | (refine hand_run (i := 4) (v := ?_) rfl (by kernel_rfl) (by kernel_rfl) (by kernel_rfl) (fun _ _ _ h => h) (by rfl) ?_ (by assumption) ?_; rotate_left; (intro W hW; have f0 := cell_below hW d0; have f1 := cell_below hW d1; have f2 := cell_below hW d2; have f3 := cell_below hW d3; have f4 := cell_below hW d4; have f5 := cell_below hW co5; have f6 := cell_below hW cm5; have f7 := cell_below hW ca5; first | (go_simp; done) | (go_simp; with_reducible rfl)))
                    (try simp only [Act.put, List.setIfInBounds_toArray, List.set_cons_zero, List.set_cons_succ])
                    first | (refine hand_skip (i := 5) rfl (by kernel_rfl) (by kernel_rfl) (by kernel_rfl) (fun _ _ _ h => h) (by rfl) (by assumption) ?_) | (refine hand_run (i := 5) (v := ?_) rfl (by kernel_rfl) (by kernel_rfl) (by kernel_rfl) (fun _ _ _ h => h) (by rfl) ?_ (by assumption) ?_; rotate_left; (intro W hW; have f0 := cell_below hW d0; have f1 := cell_below hW d1; have f2 := cell_below hW d2; have f3 := cell_below hW d3; have f4 := cell_below hW d4; have f5 := cell_below hW co5; have f6 := cell_below hW cm5; have f7 := cell_below hW ca5; first | (go_simp; done) | (go_simp; with_reducible rfl)))
                    (try simp only [Act.put, List.setIfInBounds_toArray, List.set_cons_zero, List.set_cons_succ])
                    first | (refine hand_skip (i := 6) rfl (by kernel_rfl) (by kernel_rfl) (by kernel_rfl) (fun _ _ _ h => h) (by rfl) (by assumption) ?_) | (refine hand_run (i := 6) (v := ?_) rfl (by kernel_rfl) (by kernel_rfl) (by kernel_rfl) (fun _ _ _ h => h) (by rfl) ?_ (by assumption) ?_; rotate_left; (intro W hW; have f0 := cell_below hW d0; have f1 := cell_below hW d1; have f2 := cell_below hW d2; have f3 := cell_below hW d3; have f4 := cell_below hW d4; have f5 := cell_below hW co5; have f6 := cell_below hW cm5; have f7 := cell_below hW ca5; first | (go_simp; done) | (go_simp; with_reducible rfl)))
                    (try simp only [Act.put, List.setIfInBounds_toArray, List.set_cons_zero, List.set_cons_succ])
                    refine hand_one (i := 7) rfl (by kernel_rfl) (fun K hK => ?_)
                    refine q_yes (by rfl) ?_
                    go_simp
                    refine (HEN.out _ hpp _ (below_trans' hb05 hHeld)).mono ?_
                    rintro e w6 ⟨rfl, hb6⟩
                    refine hK.out _ _ (below_trans' hHeld hb6) (fun hHeld => ?_)
                    clear hK K
                    (try simp only [Act.put, List.setIfInBounds_toArray, List.set_cons_zero, List.set_cons_succ])
                    first | (refine hand_skip (i := 8) rfl (by kernel_rfl) (by kernel_rfl) (by kernel_rfl) (fun _ _ _ h => h) (by rfl) (by assumption) ?_) | (refine hand_run (i := 8) (v := ?_) rfl (by kernel_rfl) (by kernel_rfl) (by kernel_rfl) (fun _ _ _ h => h) (by rfl) ?_ (by assumption) ?_; rotate_left; (intro W hW; have f0 := cell_below hW d0; have f1 := cell_below hW d1; have f2 := cell_below hW d2; have f3 := cell_below hW d3; have f4 := cell_below hW d4; have f5 := cell_below hW co5; have f6 := cell_below hW cm5; have f7 := cell_below hW ca5; first | (go_simp; done) | (go_simp; with_reducible rfl)))
                    (try simp only [Act.put, List.setIfInBounds_toArray, List.set_cons_zero, List.set_cons_succ])
                    first | (refine hand_skip (i := 9) rfl (by kernel_rfl) (by kernel_rfl) (by kernel_rfl) (fun _ _ _ h => h) (by rfl) (by assumption) ?_) | (refine hand_run (i := 9) (v := ?_) rfl (by kernel_rfl) (by kernel_rfl) (by kernel_rfl) (fun _ _ _ h => h) (by rfl) ?_ (by assumption) ?_; rotate_left; (intro W hW; have f0 := cell_below hW d0; have f1 := cell_below hW d1; have f2 := cell_below hW d2; have f3 := cell_below hW d3; have f4 := cell_below hW d4; have f5 := cell_below hW co5; have f6 := cell_below hW cm5; have f7 := cell_below hW ca5; first | (go_simp; done) | (go_simp; with_reducible rfl)))
                    (try simp only [Act.put, List.setIfInBounds_toArray, List.set_cons_zero, List.set_cons_succ])
                    first | (refine hand_skip (i := 10) rfl (by kernel_rfl) (by kernel_rfl) (by kernel_rfl) (fun _ _ _ h => h) (by rfl) (by assumption) ?_) | (refine hand_run (i := 10) (v := ?_) rfl (by kernel_rfl) (by kernel_rfl) (by kernel_rfl) (fun _ _ _ h => h) (by rfl) ?_ (by assumption) ?_; rotate_left; (intro W hW; have f0 := cell_below hW d0; have f1 := cell_below hW d1; have f2 := cell_below hW d2; have f3 := cell_below hW d3; have f4 := cell_below hW d4; have f5 := cell_below hW co5; have f6 := cell_below hW cm5; have f7 := cell_below hW ca5; first | (go_simp; done) | (go_simp; with_reducible rfl)))
                    (try simp only [Act.put, List.setIfInBounds_toArray, List.set_cons_zero, List.set_cons_succ])
                    first | (refine hand_skip (i := 11) rfl (by kernel_rfl) (by kernel_rfl) (by kernel_rfl) (fun _ _ _ h => h) (by rfl) (by assumption) ?_) | (refine hand_run (i := 11) (v := ?_) rfl (by kernel_rfl) (by kernel_rfl) (by kernel_rfl) (fun _ _ _ h => h) (by rfl) ?_ (by assumption) ?_; rotate_left; (intro W hW; have f0 := cell_below hW d0; have f1 := cell_below hW d1; have f2 := cell_below hW d2; have f3 := cell_below hW d3; have f4 := cell_below hW d4; have f5 := cell_below hW co5; have f6 := cell_below hW cm5; have f7 := cell_below hW ca5; first | (go_simp; done) | (go_simp; with_reducible rfl)))
                    (try simp only [Act.put, List.setIfInBounds_toArray, List.set_cons_zero, List.set_cons_succ])
                    refine wpAnyH_done (by kernel_rfl) ?_ _
                    have hMa := hM5.below hHeld
                    have hba := below_trans' hb05 hHeld
                    have HSa := Lib.hid HS1.out
                    have HPa := Lib.hid HP1.out
                    clear d0 d1 d2 d3 d4 co5 cm5 ca5 hM5 hHeld hb05 HS1 HP1
                    go_wp2_with fail
                    refine (HNXT.out j hlt _ hba).mono ?_
                    rintro e w9 ⟨An, cn, rfl, hon, hb9⟩
                    have hb09 := below_trans' hba hb9
                    have HML9 := Lib.hid hMa.lt
                    have hM9 := hMa.below hb9
                    have hnl := nextL_len k j
                    have HON := Lib.hid (fun W (h : Tch bo ba w.heap.size w9 W) => own_rd (h.own hon HML9.out.1 HML9.out.2.1 HML9.out.2.2.1))
                    have HB9 := Lib.hid (fun W (h : Tch bo ba w.heap.size w9 W) => hb09.trans (h.below hb09.size hbo0 hba0 (Nat.le_refl _)))
                    generalize nextL k j = ns at *
                    clear hb9 hMa hba hon hb09
                    go_wp2_with fail
                    obtain ⟨wo2, rfl⟩ : ∃ wo2 : World, wo2 = wr := ⟨_, rfl⟩
                    go_loopg [88] ns.length (fun l i wr => ∃ (m : Nat) (t : List Bool) (nw : Bool), m ≤ ns.length ∧ l = ns.length - m ∧ i = .int .i64 m ∧ MK wr w.heap.size bo ba w.heap.size k.ins.length t nw ∧ MetS k t ∧ MtR ms0 nw t ∧ t = (ns.take m).foldl mstep ms1 ∧ Tch bo ba w.heap.size w9 wr)
                    case atStart => exact ⟨0, ms1, nw1, by omega, by omega, rfl, hM9, HSa.out, HPa.out, rfl, Tch.refl _ _ _ _⟩
                    case round =>
                      clear hM9
                      obtain ⟨m, t, nw, hm, rfl, rfl, hM2, hS2, hP2, ht, hT2⟩ := hrel
                      have HTT := Lib.hid ht
                      have HS2 := Lib.hid hS2
                      have HP2 := Lib.hid hP2
                      clear ht hS2 hP2
                      by_cases hltm : m < ns.length
                      · obtain ⟨adn, ean, _, hcn⟩ := (HON.out _ hT2).nat hltm
                        obtain ⟨hxl, hmet⟩ := HNX.out ns[m] (List.getElem_mem hltm)
                        have HMT := Lib.hid hmet
                        clear hmet
                        have HST := Lib.hid (fold_take mstep ns ms1 hltm)
                        generalize ns[m] = y at *
                        subst ean
                        have HPT := Lib.hid (met1_any bo ba w.heap.size k.ins.length y t nw wr hM2 hxl hins)
                        have HS3 := Lib.hid (HS2.out.step HMT.out)
                        have HP3 := Lib.hid (HP2.out.put (x := y) (by rw [HS2.out.len]; exact hxl))
                        have z1 : (0 : Int) ≤ (m : Int) := by omega
                        have z2 : (m : Int) < (ns.length : Int) := by omega
                        clear hM2
                        go_wp2_with fail
                        refine HPT.out.mono ?_
                        rintro e w10 ⟨rfl, hM3, hT3⟩
                        go_wp2_with fail
                        go_roundg (ns.length - (m + 1))
                        case measure => omega
                        case rel => exact ⟨m + 1, t.set y true, nw || !mkd t y, by omega, rfl, by go_num, hM3, HS3.out, HP3.out, by rw [HST.out, ← HTT.out]; rfl, hT2.trans hT3⟩
                      · obtain rfl : m = ns.length := by omega
                        have hb0 := HB9.out _ hT2
                        have HMP := Lib.hid (show t = (List.range (j + 1)).foldl (mplace k) ms0 from by
                          rw [List.range_succ, List.foldl_append, ← HFO.out]
                          exact (by rw [HTT.out, List.take_length]; exact HEQ.out))
                        go_wp2_with fail
                        go_roundg (k.ins.length - (j + 1))
                        case measure => omega
                        case rel => exact ⟨j + 1, t, nw, by omega, rfl, by go_num, hM2, HS2.out, HP2.out, HMP.out, hb0⟩
                · have HEQ := Lib.hid (show (nextL k j).foldl mstep ms = mplace k ms j from by unfold mplace; rw [if_pos hmk, if_neg h4])
                  have HNX := Lib.hid (show ∀ y ∈ nextL k j, y < k.ins.length ∧ MetP k y from fun y hy => ⟨(nextL_in HR.out hlt hy).1, .next HMT.out h4 hy⟩)
                  have e4 : (opN k j == 4) = false := by simpa using h4
                  have bA := below_alloc0 wr (.cells #[.int .i64 (opN k j), .int .i64 (argN k j), .int .i64 k.ins[j].term.kind, .int .i64 k.ins[j].term.num, .string k.ins[j].term.name, .slice A' k.ins[j].term.kids.length c', .int .i64 k.ins[j].to] 52)
                  have hMa := hM.below bA
                  have hba := below_trans' hb bA
                  have cm' := cell_below bA cm
                  have co' := cell_below bA co
                  have HSa := HS
                  have HPa := HP
                  clear hmk h4 bA hb
                  go_wp2_with fail
                  clear cm co k0 k1 k2 k3 k4 k5 k6 hM cm' co' e4
                  generalize wr.alloc (.cells #[.int .i64 (opN k j), .int .i64 (argN k j), .int .i64 k.ins[j].term.kind, .int .i64 k.ins[j].term.num, .string k.ins[j].term.name, .slice A' k.ins[j].term.kids.length c', .int .i64 k.ins[j].to] 52) = wa at *
                  refine (HNXT.out j hlt _ hba).mono ?_
                  rintro e w9 ⟨An, cn, rfl, hon, hb9⟩
                  have hb09 := below_trans' hba hb9
                  have HML9 := Lib.hid hMa.lt
                  have hM9 := hMa.below hb9
                  have hnl := nextL_len k j
                  have HON := Lib.hid (fun W (h : Tch bo ba w.heap.size w9 W) => own_rd (h.own hon HML9.out.1 HML9.out.2.1 HML9.out.2.2.1))
                  have HB9 := Lib.hid (fun W (h : Tch bo ba w.heap.size w9 W) => hb09.trans (h.below hb09.size hbo0 hba0 (Nat.le_refl _)))
                  generalize nextL k j = ns at *
                  clear hb9 hMa hba hon hb09
                  go_wp2_with fail
                  obtain ⟨wo2, rfl⟩ : ∃ wo2 : World, wo2 = wr := ⟨_, rfl⟩
                  go_loopg [88] ns.length (fun l i wr => ∃ (m : Nat) (t : List Bool) (nw : Bool), m ≤ ns.length ∧ l = ns.length - m ∧ i = .int .i64 m ∧ MK wr w.heap.size bo ba w.heap.size k.ins.length t nw ∧ MetS k t ∧ MtR ms0 nw t ∧ t = (ns.take m).foldl mstep ms ∧ Tch bo ba w.heap.size w9 wr)
                  case atStart => exact ⟨0, ms, nw0, by omega, by omega, rfl, hM9, HSa.out, HPa.out, rfl, Tch.refl _ _ _ _⟩
                  case round =>
                    clear hM9
                    obtain ⟨m, t, nw, hm, rfl, rfl, hM2, hS2, hP2, ht, hT2⟩ := hrel
                    have HTT := Lib.hid ht
                    have HS2 := Lib.hid hS2
                    have HP2 := Lib.hid hP2
                    clear ht hS2 hP2
                    by_cases hltm : m < ns.length
                    · obtain ⟨adn, ean, _, hcn⟩ := (HON.out _ hT2).nat hltm
                      obtain ⟨hxl, hmet⟩ := HNX.out ns[m] (List.getElem_mem hltm)
                      have HMT := Lib.hid hmet
                      clear hmet
                      have HST := Lib.hid (fold_take mstep ns ms hltm)
                      generalize ns[m] = y at *
                      subst ean
                      have HPT := Lib.hid (met1_any bo ba w.heap.size k.ins.length y t nw wr hM2 hxl hins)
                      have HS3 := Lib.hid (HS2.out.step HMT.out)
                      have HP3 := Lib.hid (HP2.out.put (x := y) (by rw [HS2.out.len]; exact hxl))
                      have z1 : (0 : Int) ≤ (m : Int) := by omega
                      have z2 : (m : Int) < (ns.length : Int) := by omega
                      clear hM2
                      go_wp2_with fail
                      refine HPT.out.mono ?_
                      rintro e w10 ⟨rfl, hM3, hT3⟩
                      go_wp2_with fail
                      go_roundg (ns.length - (m + 1))
                      case measure => omega
                      case rel => exact ⟨m + 1, t.set y true, nw || !mkd t y, by omega, rfl, by go_num, hM3, HS3.out, HP3.out, by rw [HST.out, ← HTT.out]; rfl, hT2.trans hT3⟩
                    · obtain rfl : m = ns.length := by omega
                      have hb0 := HB9.out _ hT2
                      have HMP := Lib.hid (show t = (List.range (j + 1)).foldl (mplace k) ms0 from by
                        rw [List.range_succ, List.foldl_append, ← HFO.out]
                        exact (by rw [HTT.out, List.take_length]; exact HEQ.out))
                      go_wp2_with fail
                      go_roundg (k.ins.length - (j + 1))
                      case measure => omega
                      case rel => exact ⟨j + 1, t, nw, by omega, rfl, by go_num, hM2, HS2.out, HP2.out, HMP.out, hb0⟩
            · obtain rfl : j = k.ins.length := by omega
              have ca := (row_facts hM.again).1 0 _ rfl
              have bA := below_alloc0 wr (.cells #[.bool nw0] 4)
              have hbo4 := hM.lt
              have HMK0 := Lib.hid (show MK (wr.alloc (.cells #[.bool nw0] 4)) w.heap.size bo wr.heap.size w.heap.size k.ins.length ms nw0 from ⟨(bA.block bo hbo4.1).trans hM.out, heap_alloc_new wr _, own_below hM.rm bA, by omega⟩)
              have HB0 := Lib.hid (below_trans' hb bA)
              have hle : w.heap.size ≤ wr.heap.size := hb.size
              clear hM hb bA
              go_wp2_with fail
              go_roundg (2 * unm ms + (if nw0 then 1 else 0))
              case measure =>
                cases nw0
                · rw [HP.out.no rfl]; simp
                · have := HP.out.yes rfl; simp; omega
              case rel => exact ⟨_, ms, nw0, rfl, HMK0.out, HS.out, fun h => by have h1 := HP.out.no h; have h2 := HFO.out; rw [h1] at h2 ⊢; exact h2.symm, rfl, hle, HB0.out⟩
end Go.Proofs.YtkgoajnnkimkaaaGreat
