/- Contracts of must and l15Must: what is held for sure ahead of each place. -/
import Derived.Test.YtkgoajnnkimkaaaGreatG2
import Derived.Test.YtkgoajnnkimkaaaGreatG3
set_option linter.unusedSimpArgs false
set_option linter.unusedVariables false
namespace Go.Proofs.YtkgoajnnkimkaaaGreat
open Go.ChangeShapes Go.WideShapes Go.ChangeAt Go.RowKit

/-- The row on its way: places that are done, places that are as they were. -/
structure Mu (k : Cd) (es : List (Int × Int)) (bs : List Nat) (D R : Nat → Prop) (ys : List Nat) : Prop where
  len : ys.length = k.ins.length
  done : ∀ a, a < k.ins.length → D a → gt ys a = mustF k es bs a
  rest : ∀ a, a < k.ins.length → R a → gt ys a = 63
section
variable {k : Cd} {es : List (Int × Int)} {bs ys : List Nat} {D R D' R' : Nat → Prop}
theorem Mu.mono (h : Mu k es bs D R ys) (hd : ∀ a, a < k.ins.length → D' a → D a) (hr : ∀ a, a < k.ins.length → R' a → R a) : Mu k es bs D' R' ys :=
  ⟨h.len, fun a ha hD => h.done a ha (hd a ha hD), fun a ha hR => h.rest a ha (hr a ha hR)⟩
theorem Mu.put (h : Mu k es bs D R ys) {i y : Nat} (hi : i < k.ins.length) (hy : y = mustF k es bs i) (hd : ∀ a, a < k.ins.length → D' a → a = i ∨ D a) (hr : ∀ a, a < k.ins.length → R' a → a ≠ i ∧ R a) : Mu k es bs D' R' (ys.set i y) := by
  refine ⟨by simp [h.len], fun a ha hD => ?_, fun a ha hR => ?_⟩
  · rw [gt_set (by rw [h.len]; exact hi)]
    split
    · rename_i e; subst e; exact hy
    · rename_i e
      rcases hd a ha hD with h1 | h1
      · exact absurd h1.symm e
      · exact h.done a ha h1
  · rw [gt_set (by rw [h.len]; exact hi), if_neg (fun e => (hr a ha hR).1 e.symm)]
    exact h.rest a ha (hr a ha hR).2
theorem Mu.full (h : Mu k es bs D R ys) (hr : ∀ a, a < k.ins.length → D a ∨ (R a ∧ ¬ UsedP k (procN k a))) : ys = (List.range k.ins.length).map fun a => mustF k es bs a := by
  refine gt_ext (by simp [h.len]) fun a ha => ?_
  rw [h.len] at ha
  rw [show gt ((List.range k.ins.length).map fun a => mustF k es bs a) a = mustF k es bs a from by simp [gt, ha]]
  rcases hr a ha with h1 | ⟨h1, h2⟩
  · exact h.done a ha h1
  · rw [h.rest a ha h1, mustF, if_neg h2]
theorem mustF_used {p i : Nat} (hu : UsedP k p) (hp : procN k i = p) : gt (flowN k es p (gt bs p)) i = mustF k es bs i := by
  rw [mustF, hp, if_pos hu]
end

set_option maxRecDepth 100000 in
set_option maxHeartbeats 8000000 in
theorem must_any {B : Nat} (g : Nat) (v : CV) (k : Cd) (w : World) (hr : Right k) (hW : WAt w B g v k) :
    Calls Tryz.prog 116 #[.pointer (some ⟨g, 0, none⟩)] w (NewNats w (mustN k)) := by
  have hWf := hW.full
  have hkf := hWf.code
  have hins := hr.ins
  have hpl := hr.procs
  have HR := Lib.hid hr
  have HEL := Lib.hid hr.entry
  have HKT := Lib.hid (fun W (hb : Below w.heap.size w W) => hWf.kat.to hb)
  have HKC := Lib.hid (fun W (hb : Below w.heap.size w W) => hkf.below hb)
  have HW10 := Lib.hid (fun W (hb : Below w.heap.size w W) => (hWf.below hb).used)
  have HEF := Lib.hid (fun W (hb : Below w.heap.size w W) => effects_any g v k W hr (hWf.below hb))
  have HET := Lib.hid (fun A c W B' (es : List (Int × Int)) (hb : Below w.heap.size w W) (he : Rd W B' A (effCells es)) (hes : ∀ e ∈ es, effB e = true) (hel : es.length = k.procs.length) => entries_any g v k A c es W hr (hWf.below hb) he hes hel)
  have HEN := Lib.hid (fun p (hp : p < k.procs.length) W (hb : Below w.heap.size w W) => (show Calls Tryz.prog 162 #[.agg #[.slice v.gA k.globals.length v.gc, .slice v.lA k.locks.length v.lc, .slice v.pA k.procs.length v.pc, .slice v.eA k.entry.length v.ec, .slice v.iA k.ins.length v.ic], .int .i64 (p : Int)] W fun e w' => e = .returned (.int .i64 ((fin k p : Nat) : Int)) ∧ Below W.heap.size W w' from by
    have h1 := endOfProc_any v k p W (hkf.below hb) (by omega) (by have := hr.entry; omega) (by omega)
    rw [hr.fin_eq p hp] at h1
    exact h1))
  have HFL := Lib.hid (fun (es : List (Int × Int)) (A : Option Addr) (c p held : Nat) B' (hes : ∀ e ∈ es, effB e = true) (hel : es.length = k.procs.length) (hp : p < k.procs.length) (hh : held < 64) W (hb : Below w.heap.size w W) (he : Rd W B' A (effCells es)) => (show Calls Tryz.prog 91 #[.pointer (some ⟨g, 0, none⟩), .slice A k.procs.length c, .int .i64 p, .int .i64 held] W fun e w' => ∃ Af cf, e = .returned (.slice Af k.ins.length cf) ∧ w'.ownsRow W.heap.size 3 1 (.slice Af k.ins.length cf) k.ins.length (nv (flowN k es p held)) ∧ Below W.heap.size W w' from by
    have h := flow_any g v k A c es p held W hr (hWf.below hb) he hes hel hp hh
    rw [hel] at h
    refine h.mono ?_
    rintro e w' ⟨Af, cf, rfl, ho, hb'⟩
    rw [flowN_len hr hp] at ho ⊢
    exact ⟨Af, cf, rfl, ho, hb'⟩))
  have HBB := Lib.hid (fun W => (show Calls Tryz.prog 102 #[.int .i64 (usedS k : Nat)] W (NewNats W (listN k.procs.length (UsedP k))) from by
    have HB := bitsOf_nats (usedS k) W (two60 hr (setN_lt _ _))
    rw [show bitsTo (usedS k) 62 = listN k.procs.length (UsedP k) from bitsTo_setN (by omega)] at HB
    exact HB))
  have HUS := Lib.hid (show ∀ p ∈ listN k.procs.length (UsedP k), p < k.procs.length ∧ UsedP k p from fun p h => mem_listN.1 h)
  have HUM := Lib.hid (show ∀ p, p < k.procs.length → UsedP k p → p ∈ listN k.procs.length (UsedP k) from fun p h1 h2 => mem_listN.2 ⟨h1, h2⟩)
  have hul := listN_len k.procs.length (UsedP k)
  have HMN := Lib.hid (show (List.range k.ins.length).map (fun a => mustF k (effN k) (entN k (effN k)) a) = mustN k from rfl)
  have hel : (effN k).length = k.procs.length := effL_len _ _
  clear hr hW hkf hWf
  go_enter Tryz.func116, Tryz.ntmps116
  go_wp2_with fail
  refine (HEF.out _ (Below.refl _ _)).mono ?_
  rintro e w1 ⟨⟨Ae, ce, rfl, hoe, hb1⟩, hgl⟩
  have hes : ∀ e ∈ effN k, effB e = true := effL_ok hgl
  have HES := Lib.hid hes
  have HLE := Lib.hid hel
  rw [hel] at hoe ⊢
  clear hes hel hgl
  generalize effN k = es at *
  go_wp2_with fail
  refine (HET.out Ae ce w1 _ es hb1 (own_rd hoe) HES.out HLE.out).mono ?_
  rintro e w2 ⟨⟨Ab, cb, rfl, hob, hb2⟩, hES⟩
  have HS := Lib.hid hES
  have hbl := HS.out.len
  rw [hbl] at hob ⊢
  clear hES hbl
  have hb02 := below_trans' hb1 hb2
  have HTE := Lib.hid (fun V (h : Below w2.heap.size w2 V) => ((own_rd hoe).below hb2).full.below h)
  have HTB := Lib.hid (fun V (h : Below w2.heap.size w2 V) => (own_rd hob).below h)
  have HB2 := Lib.hid (fun V (h : Below w2.heap.size w2 V) => below_trans' hb02 h)
  clear hoe hob hb1 hb2
  generalize entN k es = bs at *
  generalize usedS k = un at *
  generalize listN k.procs.length (UsedP k) = us at *
  obtain ⟨c0, c1, c2, c3, c4⟩ := HKT.out _ hb02
  go_wp2_with (at_make; refine make_ints _ rfl _ _ rfl k.ins.length rfl rfl (by omega) ?_; intro w3 hown hb3)
  rw [zeros_nv] at hown
  clear c0 c1 c2 c3 c4 hb02
  go_loopg [25] k.ins.length (fun l i wr => ∃ (j : Nat) (xs : List Nat), j ≤ k.ins.length ∧ l = k.ins.length - j ∧ i = .int .i64 j ∧ wr.ownsRow w2.heap.size 3 1 (.slice (some ⟨w2.heap.size, 0, none⟩) k.ins.length k.ins.length) k.ins.length (nv xs) ∧ xs.length = k.ins.length ∧ (∀ q, q < j → gt xs q = 63) ∧ Below w2.heap.size w2 wr)
  case atStart => exact ⟨0, _, by omega, by omega, rfl, hown, by simp, fun q h => by omega, hb3⟩
  case round =>
    clear hown hb3
    obtain ⟨j, xs, hj, rfl, rfl, ho, hxl, hfl, hb⟩ := hrel
    have HFF := Lib.hid hfl
    clear hfl
    by_cases hlt : j < k.ins.length
    · obtain ⟨u, hu⟩ := own_has ho (j := j) (by omega)
      have fz := ho.frozenAt j
      have z1 : (0 : Int) ≤ (j : Int) := by omega
      have z2 : (j : Int) < (k.ins.length : Int) := by omega
      go_wp2_with fail
      obtain ⟨s1, s2⟩ := ho.stored j (.int .i64 ((63 : Nat) : Int))
      rw [nv_set] at s1
      go_roundg (k.ins.length - (j + 1))
      case measure => omega
      case rel => exact ⟨j + 1, xs.set j 63, by omega, rfl, by go_num, s1, by simp [hxl], fun q hq => (by
        rw [gt_set (by omega)]
        split
        · rfl
        · exact HFF.out q (by omega)), hb.grown s2 hb.size (fun q hq => by cases hq; exact Nat.le_refl _)⟩
    · obtain rfl : j = k.ins.length := by omega
      have HM0 := Lib.hid (show Mu k es bs (fun a => procN k a ∈ us.take 0) (fun a => procN k a ∉ us.take 0) xs from ⟨hxl, fun a ha h => by simp at h, fun a ha _ => HFF.out a ha⟩)
      clear hxl HFF
      have h10 := HW10.out _ (HB2.out _ hb)
      go_wp2_with fail
      refine (HBB.out _).mono ?_
      rintro e w4 ⟨Au, cu, rfl, hou, hb4⟩
      have hX4 := (own_lt ho).2
      have ho4 := own_below ho hb4
      have hb24 := below_trans' hb hb4
      have HOU := Lib.hid (fun V (h : Tch w2.heap.size w2.heap.size w2.heap.size w4 V) => own_rd (h.own hou hX4 hX4 hX4))
      have HBT := Lib.hid (fun V (h : Tch w2.heap.size w2.heap.size w2.heap.size w4 V) => hb24.trans (h.below hb24.size (Nat.le_refl _) (Nat.le_refl _) (Nat.le_refl _)))
      clear hou hb4 hb24 ho hb h10
      go_wp2_with fail
      go_loopg [38] us.length (fun l i wr => ∃ (j : Nat) (ys : List Nat), j ≤ us.length ∧ l = us.length - j ∧ i = .int .i64 j ∧ wr.ownsRow w2.heap.size 3 1 (.slice (some ⟨w2.heap.size, 0, none⟩) k.ins.length k.ins.length) k.ins.length (nv ys) ∧ Mu k es bs (fun a => procN k a ∈ us.take j) (fun a => procN k a ∉ us.take j) ys ∧ Tch w2.heap.size w2.heap.size w2.heap.size w4 wr)
      case atStart => exact ⟨0, _, by omega, by omega, rfl, ho4, HM0.out, Tch.refl _ _ _ _⟩
      case round =>
        clear ho4 HM0
        obtain ⟨j, ys, hj, rfl, rfl, ho, hM, hT⟩ := hrel
        have HM := Lib.hid hM
        clear hM
        have hb2r := HBT.out _ hT
        have hb := HB2.out _ hb2r
        by_cases hlt : j < us.length
        · obtain ⟨adu, eau, _, hcu⟩ := (HOU.out _ hT).nat hlt
          obtain ⟨hpl2, hus⟩ := HUS.out us[j] (List.getElem_mem hlt)
          have HTK := Lib.hid (show us.take (j + 1) = us.take j ++ [us[j]] from by rw [List.take_succ_eq_append_getElem hlt])
          generalize us[j] = p at *
          have HUP := Lib.hid hus
          clear hus
          subst eau
          obtain ⟨adb, eab, _, hcb⟩ := (HTB.out _ hb2r).nat (j := p) (by rw [HS.out.len]; exact hpl2)
          subst eab
          rw [gt_get (xs := bs) (by rw [HS.out.len]; exact hpl2)] at hcb
          have hcl := HS.out.le p
          have hfp := HR.out.lt p hpl2
          have z1 : (0 : Int) ≤ (j : Int) := by omega
          have z2 : (j : Int) < (us.length : Int) := by omega
          have x1 : (0 : Int) ≤ (p : Int) := by omega
          have x2 : (p : Int) < (k.procs.length : Int) := by omega
          have y2 : (p : Int) < (k.entry.length : Int) := by have := HEL.out; omega
          go_wp2_with fail
          refine (HFL.out es Ae ce p (gt bs p) _ HES.out HLE.out hpl2 hcl _ hb (HTE.out _ hb2r)).mono ?_
          rintro e w5 ⟨Af, cf, rfl, hof, hb5⟩
          have hX5 := (own_lt ho).2
          have ho5 := own_below ho hb5
          have hb05 := below_trans' hb hb5
          obtain ⟨c0, c1, c2, c3, c4⟩ := HKT.out _ hb05
          obtain ⟨ade, ee, hbe, hce⟩ := entry_cell HR.out (HKC.out _ hb05).full hpl2
          rw [ee] at c3
          clear ee
          have HOF := Lib.hid (fun V (h : Tch w2.heap.size w2.heap.size w2.heap.size w5 V) => own_rd (h.own hof hX5 hX5 hX5))
          have HT5 := Lib.hid (hT.trans (Tch.of_below hb5))
          have HBT5 := Lib.hid (fun V (h : Tch w2.heap.size w2.heap.size w2.heap.size w5 V) => HB2.out _ (HBT.out _ (HT5.out.trans h)))
          have HFN := Lib.hid (show ∀ i, procN k i = p → gt (flowN k es p (gt bs p)) i = mustF k es bs i from fun i hi => mustF_used HUP.out hi)
          have HFLN := Lib.hid (show (flowN k es p (gt bs p)).length = k.ins.length from flowN_len HR.out hpl2)
          have HM1 := Lib.hid (show Mu k es bs (fun a => procN k a ∈ us.take j ∨ (procN k a = p ∧ a < ent k p)) (fun a => procN k a ∉ us.take j ∧ (procN k a = p → ent k p ≤ a)) ys from HM.out.mono (fun a ha h => h.elim id fun h => by have := (HR.out.proc a ha).2.1; rw [h.1] at this; omega) (fun a ha h => h.1))
          clear hof hb5 ho hT hb2r hb hcb hcu hb05
          generalize flowN k es p (gt bs p) = fl at *
          go_wp2_with fail
          clear c0 c1 c2 c3 c4 hce
          go_loopg [10] (fin k p - ent k p) (fun l i wr => ∃ (m : Nat) (zs : List Nat), ent k p ≤ m ∧ m ≤ fin k p ∧ l = fin k p - m ∧ i = .int .i64 m ∧ wr.ownsRow w2.heap.size 3 1 (.slice (some ⟨w2.heap.size, 0, none⟩) k.ins.length k.ins.length) k.ins.length (nv zs) ∧ Mu k es bs (fun a => procN k a ∈ us.take j ∨ (procN k a = p ∧ a < m)) (fun a => procN k a ∉ us.take j ∧ (procN k a = p → m ≤ a)) zs ∧ Tch w2.heap.size w2.heap.size w2.heap.size w5 wr)
          case atStart => exact ⟨ent k p, ys, by omega, by omega, rfl, rfl, ho5, HM1.out, Tch.refl _ _ _ _⟩
          case round =>
            clear ho5 HM1
            obtain ⟨m, zs, hm0, hm, rfl, rfl, ho, hM, hT⟩ := hrel
            have HM := Lib.hid hM
            clear hM
            have hb := HBT5.out _ hT
            obtain ⟨c0, c1, c2, c3, c4⟩ := HKT.out _ hb
            go_wp2_with fail
            refine (HEN.out p hpl2 _ hb).mono ?_
            rintro e w6 ⟨rfl, hb6⟩
            have ho := own_below ho hb6
            have hT := hT.trans (Tch.of_below hb6)
            clear c0 c1 c2 c3 c4 hb6 hb
            by_cases hltm : m < fin k p
            · have hal : m < k.ins.length := by omega
              have hle : (m : Int) < ((fin k p : Nat) : Int) := by omega
              have hpm := procN_of HR.out hpl2 hm0 hltm
              obtain ⟨adf, eaf, _, hcf⟩ := (HOF.out _ hT).nat (j := m) (by rw [HFLN.out]; exact hal)
              subst eaf
              rw [gt_get (xs := fl) (by rw [HFLN.out]; exact hal)] at hcf
              obtain ⟨u, hu⟩ := own_has ho (j := m) (by omega)
              have fz := ho.frozenAt m
              have z1 : (0 : Int) ≤ (m : Int) := by omega
              have z2 : (m : Int) < (k.ins.length : Int) := by omega
              have HM2 := Lib.hid (show Mu k es bs (fun a => procN k a ∈ us.take j ∨ (procN k a = p ∧ a < m + 1)) (fun a => procN k a ∉ us.take j ∧ (procN k a = p → m + 1 ≤ a)) (zs.set m (gt fl m)) from HM.out.put hal (HFN.out m hpm) (fun a ha h => by
                rcases Nat.lt_trichotomy a m with e | e | e
                · exact .inr (h.imp id fun h => ⟨h.1, e⟩)
                · exact .inl e
                · exact .inr (h.imp id fun h => by omega)) (fun a ha h => ⟨fun e => by subst e; have := h.2 hpm; omega, h.1, fun e => by have := h.2 e; omega⟩))
              clear hpm
              go_wp2_with fail
              obtain ⟨s1, s2⟩ := ho.stored m (.int .i64 ((gt fl m : Nat) : Int))
              rw [nv_set] at s1
              go_roundg (fin k p - (m + 1))
              case measure => omega
              case rel => exact ⟨m + 1, _, by omega, by omega, rfl, by go_num, s1, HM2.out, hT.set (.inl rfl) _⟩
            · obtain rfl : m = fin k p := by omega
              have hle : ¬ ((fin k p : Nat) : Int) < ((fin k p : Nat) : Int) := by omega
              have HM2 := Lib.hid (show Mu k es bs (fun a => procN k a ∈ us.take (j + 1)) (fun a => procN k a ∉ us.take (j + 1)) zs from HM.out.mono (fun a ha h => by
                rw [HTK.out, List.mem_append, List.mem_singleton] at h
                exact h.imp id fun h => ⟨h, by have := (HR.out.proc a ha).2.2; rw [h] at this; exact this⟩) (fun a ha h => by
                rw [HTK.out, List.mem_append, List.mem_singleton] at h
                exact ⟨fun h1 => h (.inl h1), fun h1 => absurd (.inr h1) h⟩))
              go_wp2_with fail
              go_roundg (us.length - (j + 1))
              case measure => omega
              case rel => exact ⟨j + 1, zs, by omega, rfl, by go_num, ho, HM2.out, HT5.out.trans hT⟩
        · obtain rfl : j = us.length := by omega
          have hm2 := HM.out
          rw [List.take_length] at hm2
          have hfin := hm2.full (fun a ha => by
            by_cases hu : UsedP k (procN k a)
            · exact .inl (HUM.out _ (HR.out.proc a ha).1 hu)
            · exact .inr ⟨fun h => hu (HUS.out _ h).2, hu⟩)
          have hyl := hm2.len
          have HFI := Lib.hid (show NewNats w (mustN k) (.returned (.slice (some ⟨w2.heap.size, 0, none⟩) k.ins.length k.ins.length)) wr from by
            rw [← HMN.out, ← hfin]
            exact ⟨some ⟨w2.heap.size, 0, none⟩, k.ins.length, by rw [hyl], by rw [hyl]; exact own_mono ho (by have := (HB2.out w2 (Below.refl _ _)).size; exact this), hb⟩)
          clear hm2 hfin hyl
          go_wp2_with fail
          go_ret
          exact HFI.out

set_option maxRecDepth 100000 in
set_option maxHeartbeats 8000000 in
theorem l15Must_any {B L : Nat} (v : CV) (k : Cd) (w : World) (hr : Right k) (hk : CodeAt w B v k) (hcb : CdB L k) (hL : L ≤ 1048576) :
    Calls Tryz.prog 120 #[.agg #[.slice v.gA k.globals.length v.gc, .slice v.lA k.locks.length v.lc, .slice v.pA k.procs.length v.pc, .slice v.eA k.entry.length v.ec, .slice v.iA k.ins.length v.ic]] w (NewNats w (mustN k)) := by
  have hkf := hk.full
  have hbx := codeBox w v k
  have hins := hr.ins
  have hpl := hr.procs
  have HR := Lib.hid hr
  have HEL := Lib.hid hr.entry
  have HKC := Lib.hid (fun W (hb : Below w.heap.size w W) => hkf.below hb)
  have HEF := Lib.hid (fun W (hb : Below w.heap.size w W) => l13Effects_any v k W hr (hkf.below hb) hcb hL)
  have HET := Lib.hid (fun A c W B' (es : List (Int × Int)) (hb : Below w.heap.size w W) (he : Rd W B' A (effCells es)) (hes : ∀ e ∈ es, effB e = true) (hel : es.length = k.procs.length) => l15Entries_any v k A c es W hr (hkf.below hb) hcb hL he hes hel)
  have HEN := Lib.hid (fun p (hp : p < k.procs.length) W (hb : Below w.heap.size w W) => l08End_right v k p W hr (hkf.below hb) hcb hL hp)
  have HUT := Lib.hid (fun W (hb : Below w.heap.size w W) => l14Used_any v k W hr (hkf.below hb))
  have HFL := Lib.hid (fun (es : List (Int × Int)) (A : Option Addr) (c p held : Nat) B' (hes : ∀ e ∈ es, effB e = true) (hel : es.length = k.procs.length) (hp : p < k.procs.length) (hh : held < 64) W (hb : Below w.heap.size w W) (he : Rd W B' A (effCells es)) => (show Calls Tryz.prog 176 #[.agg #[.slice v.gA k.globals.length v.gc, .slice v.lA k.locks.length v.lc, .slice v.pA k.procs.length v.pc, .slice v.eA k.entry.length v.ec, .slice v.iA k.ins.length v.ic], .slice A k.procs.length c, .int .i64 p, .int .i64 held] W fun e w' => ∃ Af cf, e = .returned (.slice Af k.ins.length cf) ∧ w'.ownsRow W.heap.size 3 1 (.slice Af k.ins.length cf) k.ins.length (nv (flowN k es p held)) ∧ Below W.heap.size W w' from by
    have h := l13From_any v k A c es p held W hr (hkf.below hb) he hes hel hp hh
    rw [hel] at h
    refine h.mono ?_
    rintro e w' ⟨Af, cf, rfl, ho, hb'⟩
    rw [flowN_len hr hp] at ho ⊢
    exact ⟨Af, cf, rfl, ho, hb'⟩))
  have HMN := Lib.hid (show (List.range k.ins.length).map (fun a => mustF k (effN k) (entN k (effN k)) a) = mustN k from rfl)
  have hel : (effN k).length = k.procs.length := effL_len _ _
  clear hr hk hkf hcb
  go_enter Tryz.func120, Tryz.ntmps120
  go_wp2_with fail
  generalize w.alloc (.cells #[.slice v.gA k.globals.length v.gc, .slice v.lA k.locks.length v.lc, .slice v.pA k.procs.length v.pc, .slice v.eA k.entry.length v.ec, .slice v.iA k.ins.length v.ic] 28) = W at hbx ⊢
  refine (HEF.out _ hbx.1).mono ?_
  rintro e w1 ⟨⟨Ae, ce, rfl, hoe, hb1⟩, hgl⟩
  have hes : ∀ e ∈ effN k, effB e = true := effL_ok hgl
  have HES := Lib.hid hes
  have HLE := Lib.hid hel
  rw [hel] at hoe ⊢
  have hbx1 := hbx.to hb1
  obtain ⟨q1, q2, c0, c1, c2, c3, c4⟩ := id hbx1
  clear hes hel hgl hbx
  generalize effN k = es at *
  go_wp2_with fail
  refine (HET.out Ae ce w1 _ es hbx1.1 (own_rd hoe) HES.out HLE.out).mono ?_
  rintro e w1a ⟨⟨Ab, cb, rfl, hob, hb1a⟩, hES⟩
  have HS := Lib.hid hES
  have hbl := HS.out.len
  rw [hbl] at hob ⊢
  have hbxa := hbx1.to hb1a
  clear hES hbl q1 q2 c0 c1 c2 c3 c4
  obtain ⟨q1, q2, c0, c1, c2, c3, c4⟩ := id hbxa
  generalize entN k es = bs at *
  go_wp2_with fail
  refine (HUT.out _ hbxa.1).mono ?_
  rintro e w2 ⟨Au, cu, rfl, hou, hb2⟩
  rw [markL_len]
  have hbx2 := hbxa.to hb2
  have HTE := Lib.hid (fun V (h : Below w2.heap.size w2 V) => ((own_rd hoe).below (below_trans' hb1a hb2)).full.below h)
  have HTB := Lib.hid (fun V (h : Below w2.heap.size w2 V) => ((own_rd hob).below hb2).full.below h)
  have HRU := Lib.hid (fun V (h : Below w2.heap.size w2 V) => (own_rd hou).below h)
  have HBX := Lib.hid (fun V (h : Below w2.heap.size w2 V) => hbx2.to h)
  have hw2 := hbx2.2.1
  clear q1 q2 c0 c1 c2 c3 c4 hoe hob hb1 hb1a hb2 hou hbx1 hbxa
  obtain ⟨q1, q2, c0, c1, c2, c3, c4⟩ := id hbx2
  clear hbx2
  go_wp2_with (at_make; refine make_ints _ rfl _ _ rfl k.ins.length rfl rfl (by omega) ?_; intro w3 hown hb3)
  rw [zeros_nv] at hown
  clear c0 c1 c2 c3 c4 q1 q2
  have HM0 := Lib.hid (show Mu k es bs (fun a => procN k a < 0) (fun _ => False) (List.replicate k.ins.length 0) from ⟨by simp, fun a ha h => by omega, fun a ha h => h.elim⟩)
  go_loopg [7] k.procs.length (fun l i wr => ∃ (p : Nat) (ys : List Nat), p ≤ k.procs.length ∧ l = k.procs.length - p ∧ i = .int .i64 p ∧ wr.ownsRow w2.heap.size 3 1 (.slice (some ⟨w2.heap.size, 0, none⟩) k.ins.length k.ins.length) k.ins.length (nv ys) ∧ Mu k es bs (fun a => procN k a < p) (fun _ => False) ys ∧ Below w2.heap.size w2 wr)
  case atStart => exact ⟨0, _, by omega, by omega, rfl, hown, HM0.out, hb3⟩
  case round =>
    clear hown hb3 HM0
    obtain ⟨p, ys, hj, rfl, rfl, ho, hM, hb⟩ := hrel
    have HM := Lib.hid hM
    clear hM
    have hbxr := HBX.out _ hb
    obtain ⟨q1, q2, c0, c1, c2, c3, c4⟩ := id hbxr
    by_cases hpl2 : p < k.procs.length
    · obtain ⟨adb, eab, _, hcb⟩ := (HTB.out _ hb).nat (j := p) (by rw [HS.out.len]; exact hpl2)
      subst eab
      rw [gt_get (xs := bs) (by rw [HS.out.len]; exact hpl2)] at hcb
      have hcl := HS.out.le p
      have hfp := HR.out.lt p hpl2
      have x1 : (0 : Int) ≤ (p : Int) := by omega
      have x2 : (p : Int) < (k.procs.length : Int) := by omega
      have y2 : (p : Int) < (k.entry.length : Int) := by have := HEL.out; omega
      go_wp2_with fail
      go_still_tail 7, (by kernel_rfl)
      change wpList _ _ _ _ _ wr.drew
      go_wp2_with fail
      refine (HFL.out es Ae ce p (gt bs p) _ HES.out HLE.out hpl2 hcl _ hbxr.1.drew (HTE.out _ hb.drew)).mono ?_
      rintro e w5 ⟨Af, cf, rfl, hof, hb5⟩
      have hoD : wr.drew.ownsRow w2.heap.size 3 1 (.slice (some ⟨w2.heap.size, 0, none⟩) k.ins.length k.ins.length) k.ins.length (nv ys) := ho
      have hX5 := (own_lt hoD).2
      have ho5 := own_below hoD hb5
      have hb05 : Below w2.heap.size w2 w5 := below_trans' hb.drew hb5
      have hbx5 := HBX.out _ hb05
      clear q1 q2 c0 c1 c2 c3 c4 hcb ho hoD hbxr
      obtain ⟨q1, q2, c0, c1, c2, c3, c4⟩ := id hbx5
      obtain ⟨ade, ee, hbe, hce⟩ := entry_cell HR.out (HKC.out _ hbx5.1).full hpl2
      rw [ee] at c3
      clear ee
      have HOF := Lib.hid (fun V (h : Tch w2.heap.size w2.heap.size w2.heap.size w5 V) => own_rd (h.own hof hX5 hX5 hX5))
      have HBT5 := Lib.hid (fun V (h : Tch w2.heap.size w2.heap.size w2.heap.size w5 V) => hb05.trans (h.below hb05.size (Nat.le_refl _) (Nat.le_refl _) (Nat.le_refl _)))
      have HFN := Lib.hid (show ∀ i, UsedP k p → procN k i = p → gt (flowN k es p (gt bs p)) i = mustF k es bs i from fun i hu hi => mustF_used hu hi)
      have HFLN := Lib.hid (show (flowN k es p (gt bs p)).length = k.ins.length from flowN_len HR.out hpl2)
      have HM1 := Lib.hid (show Mu k es bs (fun a => procN k a < p ∨ (procN k a = p ∧ a < ent k p)) (fun _ => False) ys from HM.out.mono (fun a ha h => h.elim id fun h => by have := (HR.out.proc a ha).2.1; rw [h.1] at this; omega) (fun a ha h => h))
      clear hof hb5 hb hb05
      generalize flowN k es p (gt bs p) = fl at *
      go_wp2_with fail
      clear c0 c1 c2 c3 c4 q1 q2 hce hbx5
      go_loopg [9] (fin k p - ent k p) (fun l i wr => ∃ (m : Nat) (zs : List Nat), ent k p ≤ m ∧ m ≤ fin k p ∧ l = fin k p - m ∧ i = .int .i64 m ∧ wr.ownsRow w2.heap.size 3 1 (.slice (some ⟨w2.heap.size, 0, none⟩) k.ins.length k.ins.length) k.ins.length (nv zs) ∧ Mu k es bs (fun a => procN k a < p ∨ (procN k a = p ∧ a < m)) (fun _ => False) zs ∧ Tch w2.heap.size w2.heap.size w2.heap.size w5 wr)
      case atStart => exact ⟨ent k p, ys, by omega, by omega, rfl, rfl, ho5, HM1.out, Tch.refl _ _ _ _⟩
      case round =>
        clear ho5 HM1
        obtain ⟨m, zs, hm0, hm, rfl, rfl, ho, hM, hT⟩ := hrel
        have HM := Lib.hid hM
        clear hM
        have hbxr := HBX.out _ (HBT5.out _ hT)
        obtain ⟨q1, q2, c0, c1, c2, c3, c4⟩ := id hbxr
        go_wp2_with fail
        refine (HEN.out p hpl2 _ hbxr.1).mono ?_
        rintro e w6 ⟨rfl, hb6⟩
        have ho := own_below ho hb6
        have hT := hT.trans (Tch.of_below hb6)
        clear c0 c1 c2 c3 c4 q1 q2 hb6 hbxr
        by_cases hltm : m < fin k p
        · have hal : m < k.ins.length := by omega
          have hle : (m : Int) ≤ ((fin k p - 1 : Nat) : Int) := by omega
          have hpm := procN_of HR.out hpl2 hm0 hltm
          obtain ⟨u, hu⟩ := own_has ho (j := m) (by omega)
          have fz := ho.frozenAt m
          have z1 : (0 : Int) ≤ (m : Int) := by omega
          have z2 : (m : Int) < (k.ins.length : Int) := by omega
          have s1 : (w6.setCell ⟨w2.heap.size, m, none⟩ (.int .i64 63)).ownsRow w2.heap.size 3 1 (.slice (some ⟨w2.heap.size, 0, none⟩) k.ins.length k.ins.length) k.ins.length (nv (zs.set m 63)) := by
            have h1 := (ho.stored m (.int .i64 ((63 : Nat) : Int))).1
            rw [nv_set] at h1
            exact h1
          have hT1 := hT.set (a := ⟨w2.heap.size, m, none⟩) (.inl rfl) (.int .i64 63)
          obtain ⟨u1, hu1⟩ := own_has s1 (j := m) (by omega)
          have fz1 := s1.frozenAt m
          obtain ⟨ad1, ea1, _, hcu⟩ := (HRU.out _ (HBT5.out _ hT1)).mark (j := p) (by rw [markL_len]; exact hpl2)
          subst ea1
          have HPUT := Lib.hid (fun y (hy : y = mustF k es bs m) => (show Mu k es bs (fun a => procN k a < p ∨ (procN k a = p ∧ a < m + 1)) (fun _ => False) (zs.set m y) from HM.out.put hal hy (fun a ha h => by
            rcases Nat.lt_trichotomy a m with e | e | e
            · exact .inr (h.imp id fun h => ⟨h.1, e⟩)
            · exact .inl e
            · exact .inr (h.imp id fun h => by omega)) (fun a ha h => h.elim)))
          by_cases hus : UsedP k p
          · rw [mkd_markL_pos hpl2 hus] at hcu
            obtain ⟨adf, eaf, _, hcf⟩ := (HOF.out _ hT1).nat (j := m) (by rw [HFLN.out]; exact hal)
            subst eaf
            rw [gt_get (xs := fl) (by rw [HFLN.out]; exact hal)] at hcf
            have HM2 := Lib.hid (HPUT.out _ (HFN.out m hus hpm))
            obtain ⟨s2, _⟩ := s1.stored m (.int .i64 ((gt fl m : Nat) : Int))
            rw [nv_set, List.set_set] at s2
            have hT2 := hT1.set (a := ⟨w2.heap.size, m, none⟩) (.inl rfl) (.int .i64 ((gt fl m : Nat) : Int))
            clear hpm hus
            go_wp2_with fail
            go_roundg (fin k p - (m + 1))
            case measure => omega
            case rel => exact ⟨m + 1, _, by omega, by omega, rfl, by go_num, s2, HM2.out, hT2⟩
          · rw [mkd_markL_neg hus] at hcu
            have HM2 := Lib.hid (HPUT.out 63 (by rw [mustF, hpm, if_neg hus]))
            clear hpm hus
            go_wp2_with fail
            go_roundg (fin k p - (m + 1))
            case measure => omega
            case rel => exact ⟨m + 1, _, by omega, by omega, rfl, by go_num, s1, HM2.out, hT1⟩
        · obtain rfl : m = fin k p := by omega
          have hle : ¬ ((fin k p : Nat) : Int) ≤ ((fin k p - 1 : Nat) : Int) := by omega
          have HM2 := Lib.hid (show Mu k es bs (fun a => procN k a < p + 1) (fun _ => False) zs from HM.out.mono (fun a ha h => by
            rcases Nat.lt_or_ge (procN k a) p with h1 | h1
            · exact .inl h1
            · have e : procN k a = p := by omega
              exact .inr ⟨e, by have := (HR.out.proc a ha).2.2; rw [e] at this; exact this⟩) (fun a ha h => h))
          have hb := HBT5.out _ hT
          go_wp2_with fail
          go_roundg (k.procs.length - (p + 1))
          case measure => omega
          case rel => exact ⟨p + 1, zs, by omega, rfl, by go_num, ho, HM2.out, hb⟩
    · obtain rfl : p = k.procs.length := by omega
      have hfin := HM.out.full (fun a ha => .inl (HR.out.proc a ha).1)
      have hyl := HM.out.len
      have HFI := Lib.hid (show NewNats w (mustN k) (.returned (.slice (some ⟨w2.heap.size, 0, none⟩) k.ins.length k.ins.length)) wr from by
        rw [← HMN.out, ← hfin]
        exact ⟨some ⟨w2.heap.size, 0, none⟩, k.ins.length, by rw [hyl], by rw [hyl]; exact own_mono ho (by omega), hbxr.1⟩)
      clear hfin hyl
      go_wp2_with fail
      go_ret
      exact HFI.out
end Go.Proofs.YtkgoajnnkimkaaaGreat
