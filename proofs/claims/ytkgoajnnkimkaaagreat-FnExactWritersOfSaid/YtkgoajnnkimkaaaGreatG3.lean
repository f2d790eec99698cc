/- Contracts of entries and l15Entries: what is held for sure where a procedure begins. -/
import Derived.Test.YtkgoajnnkimkaaaGreatG1
import Derived.Test.YtkgoajnnkimkaaaGreatD13
set_option linter.unusedSimpArgs false
set_option linter.unusedVariables false
namespace Go.Proofs.YtkgoajnnkimkaaaGreat
open Go.ChangeShapes Go.WideShapes Go.ChangeAt Go.RowKit

theorem listN_nil {P : Nat → Prop} {n : Nat} (h : ∀ i, P i → n ≤ i) : listN n P = [] := by
  refine List.eq_nil_iff_forall_not_mem.2 fun i hi => ?_
  obtain ⟨h1, h2⟩ := mem_listN.1 hi
  have := h i h2
  omega
theorem listN_end {P : Nat → Prop} {m n : Nat} (h : ∀ i, P i → i < m) (hm : m ≤ n) : listN n P = listN m P := by
  induction n with
  | zero => rw [show m = 0 from by omega]
  | succ n ih =>
    rcases Nat.lt_or_ge n m with h1 | h1
    · rw [show m = n + 1 from by omega]
    · rw [listN_skip fun hp => by have := h n hp; omega, ih h1]
/-- The row on its way to its first numbers. -/
structure FillE (k : Cd) (j : Nat) (xs : List Nat) : Prop where
  len : xs.length = k.procs.length
  done : ∀ q, q < j → gt xs q = gt (ent0 k k.procs.length) q
  rest : ∀ q, j ≤ q → gt xs q = 0
theorem fillE0 (k : Cd) : FillE k 0 (List.replicate k.procs.length 0) := by
  refine ⟨by simp, fun q h => by omega, fun q _ => ?_⟩
  rcases Nat.lt_or_ge q k.procs.length with h | h
  · rw [gt_replicate h]
  · rw [gt_none (by simpa using h)]
theorem FillE.root {k : Cd} {j : Nat} {xs : List Nat} (h : FillE k j xs) (hj : j < k.procs.length) (hr : RootP k j) : FillE k (j + 1) xs := by
  refine ⟨h.len, fun q hq => ?_, fun q hq => h.rest q (by omega)⟩
  rcases Nat.lt_or_ge q j with h1 | h1
  · exact h.done q h1
  · obtain rfl : q = j := by omega
    rw [h.rest q (Nat.le_refl _), ent0_get hj, if_pos hr]
theorem FillE.other {k : Cd} {j : Nat} {xs : List Nat} (h : FillE k j xs) (hj : j < k.procs.length) (hr : ¬ RootP k j) : FillE k (j + 1) (xs.set j 63) := by
  refine ⟨by simp [h.len], fun q hq => ?_, fun q hq => ?_⟩
  · rw [gt_set (by rw [h.len]; exact hj)]
    split
    · rename_i e; subst e; rw [ent0_get hj, if_neg hr]
    · exact h.done q (by omega)
  · rw [gt_set (by rw [h.len]; exact hj), if_neg (by omega)]
    exact h.rest q (by omega)
theorem FillE.full {k : Cd} {xs : List Nat} (h : FillE k k.procs.length xs) : xs = ent0 k k.procs.length :=
  gt_ext (by rw [h.len, ent0_len]) fun q hq => h.done q (by rw [← h.len]; exact hq)
theorem used_lt' {k : Cd} (hr : Right k) {p : Nat} (h : p ∈ listN k.procs.length (UsedP k)) : p < k.procs.length ∧ UsedP k p := mem_listN.1 h

set_option maxRecDepth 100000 in
set_option maxHeartbeats 8000000 in
theorem entries_any {B B' : Nat} (g : Nat) (v : CV) (k : Cd) (A : Option Addr) (c : Nat) (es : List (Int × Int)) (w : World) (hr : Right k) (hW : WAt w B g v k) (he : Rd w B' A (effCells es)) (hes : ∀ e ∈ es, effB e = true) (hel : es.length = k.procs.length) :
    Calls Tryz.prog 122 #[.pointer (some ⟨g, 0, none⟩), .slice A k.procs.length c] w fun e w' => NewNats w (entN k es) e w' ∧ EntS k es (entN k es) := by
  have hWf := hW.full
  have hkf := hWf.code
  have hef := he.full
  have hins := hr.ins
  have hpl := hr.procs
  have h2p : 2 ^ k.procs.length ≤ 2 ^ 8 := Nat.pow_le_pow_right (by omega) hpl
  have HR := Lib.hid hr
  have HKT := Lib.hid (fun W (hb : Below w.heap.size w W) => hWf.kat.to hb)
  have HKC := Lib.hid (fun W (hb : Below w.heap.size w W) => hkf.below hb)
  have HW9 := Lib.hid (fun W (hb : Below w.heap.size w W) => (hWf.below hb).roots)
  have HW10 := Lib.hid (fun W (hb : Below w.heap.size w W) => (hWf.below hb).used)
  have HLV := Lib.hid (fun p (hp : p < k.procs.length) W (hb : Below w.heap.size w W) => liveOf_any g v k p W hr (hkf.below hb) (hWf.kat.to hb) (hWf.live.below hb (Nat.le_refl _)) hp)
  have HFL := Lib.hid (fun (p held : Nat) (hp : p < k.procs.length) (hh : held < 64) W (hb : Below w.heap.size w W) => (show Calls Tryz.prog 91 #[.pointer (some ⟨g, 0, none⟩), .slice A k.procs.length c, .int .i64 p, .int .i64 held] W fun e w' => ∃ Af cf, e = .returned (.slice Af k.ins.length cf) ∧ w'.ownsRow W.heap.size 3 1 (.slice Af k.ins.length cf) k.ins.length (nv (flowN k es p held)) ∧ Below W.heap.size W w' from by
    have h := flow_any g v k A c es p held W hr (hWf.below hb) (hef.below hb) hes hel hp hh
    rw [hel] at h
    refine h.mono ?_
    rintro e w' ⟨Af, cf, rfl, ho, hb'⟩
    rw [flowN_len hr hp] at ho ⊢
    exact ⟨Af, cf, rfl, ho, hb'⟩))
  have HFN := Lib.hid (fun (p held : Nat) (hp : p < k.procs.length) => (⟨flowN_len hr hp, flowN_lt hr hp⟩ : (flowN k es p held).length = k.ins.length ∧ ∀ i, gt (flowN k es p held) i < 64))
  have HHB := Lib.hid (fun j (hj : j < k.procs.length) W => hasBit_any (rootsN k) j W (by have := two60 hr (setN_lt k.procs.length (RootP k)); unfold rootsN; omega) (by omega))
  have HRB := Lib.hid (show ∀ j, j < k.procs.length → ((rootsN k).testBit j = true ↔ RootP k j) from fun j hj => by
    unfold rootsN
    rw [testBit_setN_true]
    exact ⟨fun h => h.2, fun h => ⟨hj, h⟩⟩)
  have HBB := Lib.hid (fun W => (show Calls Tryz.prog 102 #[.int .i64 (usedS k : Nat)] W (NewNats W (listN k.procs.length (UsedP k))) from by
    have HB := bitsOf_nats (usedS k) W (two60 hr (setN_lt _ _))
    rw [show bitsTo (usedS k) 62 = listN k.procs.length (UsedP k) from bitsTo_setN (by omega)] at HB
    exact HB))
  have HUS := Lib.hid (show ∀ p ∈ listN k.procs.length (UsedP k), p < k.procs.length ∧ UsedP k p from fun p h => mem_listN.1 h)
  have hul := listN_len k.procs.length (UsedP k)
  have HE0 := Lib.hid (entS0 (es := es) hr)
  have HSTOP := Lib.hid (fun bs (h : EntS k es bs) hf => h.stop hr (fun p hp => used_lt hr hp) hf)
  have h9 := hWf.roots
  obtain ⟨c0, c1, c2, c3, c4⟩ := hWf.kat
  clear hr hW he hes hkf hef hWf hel
  generalize rootsN k = rn at *
  generalize usedS k = un at *
  generalize listN k.procs.length (UsedP k) = us at *
  go_enter Tryz.func122, Tryz.ntmps122
  go_wp2_with (at_make; refine make_ints _ rfl _ _ rfl k.procs.length rfl rfl (by omega) ?_; intro w1 hown hb1)
  rw [zeros_nv] at hown
  clear c0 c1 c2 c3 c4 h9
  go_loopg [23] k.procs.length (fun l i wr => ∃ (j : Nat) (xs : List Nat), j ≤ k.procs.length ∧ l = k.procs.length - j ∧ i = .int .i64 j ∧ wr.ownsRow w.heap.size 3 1 (.slice (some ⟨w.heap.size, 0, none⟩) k.procs.length k.procs.length) k.procs.length (nv xs) ∧ FillE k j xs ∧ Below w.heap.size w wr)
  case atStart => exact ⟨0, _, by omega, by omega, rfl, hown, fillE0 k, hb1⟩
  case round =>
    clear hown hb1
    obtain ⟨j, xs, hj, rfl, rfl, ho, hfl, hb⟩ := hrel
    have HFI := Lib.hid hfl
    clear hfl
    by_cases hlt : j < k.procs.length
    · have h9 := HW9.out _ hb
      obtain ⟨u, hu⟩ := own_has ho (j := j) (by omega)
      have fz := ho.frozenAt j
      have z1 : (0 : Int) ≤ (j : Int) := by omega
      have z2 : (j : Int) < (k.procs.length : Int) := by omega
      have HH := HHB.out j hlt wr
      by_cases hrt : RootP k j
      · rw [(HRB.out j hlt).2 hrt] at HH
        have HH := Lib.hid HH
        have HF2 := Lib.hid (HFI.out.root hlt hrt)
        clear hrt
        go_wp2_with fail
        refine HH.out.mono ?_
        rintro e w2 ⟨rfl, rfl⟩
        go_wp2_with fail
        go_roundg (k.procs.length - (j + 1))
        case measure => omega
        case rel => exact ⟨j + 1, xs, by omega, rfl, by go_num, ho, HF2.out, hb⟩
      · rw [show rn.testBit j = false from by
          cases e : rn.testBit j
          · rfl
          · exact absurd ((HRB.out j hlt).1 e) hrt] at HH
        have HH := Lib.hid HH
        have HF2 := Lib.hid (HFI.out.other hlt hrt)
        clear hrt
        go_wp2_with fail
        refine HH.out.mono ?_
        rintro e w2 ⟨rfl, rfl⟩
        go_wp2_with fail
        obtain ⟨s1, s2⟩ := ho.stored j (.int .i64 ((63 : Nat) : Int))
        rw [nv_set] at s1
        go_roundg (k.procs.length - (j + 1))
        case measure => omega
        case rel => exact ⟨j + 1, xs.set j 63, by omega, rfl, by go_num, s1, HF2.out, hb.grown s2 hb.size (fun q hq => by cases hq; exact Nat.le_refl _)⟩
    · obtain rfl : j = k.procs.length := by omega
      have hx := HFI.out.full
      subst hx
      clear HFI
      go_wp2_with fail
      go_loopg [7] (2 * (ent0 k k.procs.length).sum + 1) (fun l ag wr => ∃ (bs : List Nat) (new : Bool), ag = .bool new ∧ l = 2 * bs.sum + (if new then 1 else 0) ∧ wr.ownsRow w.heap.size 3 1 (.slice (some ⟨w.heap.size, 0, none⟩) k.procs.length k.procs.length) k.procs.length (nv bs) ∧ EntS k es bs ∧ (new = false → ∀ d ∈ livesL k us, opN k d.2 = 4 → Sub (gt bs (argN k d.2)) (gt (flowN k es d.1 (gt bs d.1)) d.2)) ∧ Below w.heap.size w wr)
      case atStart => exact ⟨_, true, rfl, rfl, ho, HE0.out, by simp, hb⟩
      case round =>
        clear ho hb HE0
        obtain ⟨bs, new, rfl, rfl, ho, hS, hfx, hb⟩ := hrel
        have HFX := Lib.hid hfx
        have HS := Lib.hid hS
        clear hfx hS
        cases new
        · have hfin := HSTOP.out bs HS.out (HFX.out rfl)
          have HFI := Lib.hid (show NewNats w (entN k es) (.returned (.slice (some ⟨w.heap.size, 0, none⟩) k.procs.length k.procs.length)) wr ∧ EntS k es (entN k es) from by
            rw [← hfin]
            exact ⟨⟨some ⟨w.heap.size, 0, none⟩, k.procs.length, by rw [HS.out.len], by rw [HS.out.len]; exact ho, hb⟩, HS.out⟩)
          clear hfin
          go_wp2_with fail
          go_ret
          exact HFI.out
        · have h10 := HW10.out _ hb
          clear HFX
          go_wp2_with fail
          refine (HBB.out _).mono ?_
          rintro e w2 ⟨Au, cu, rfl, hou, hb2⟩
          have hX2 := (own_lt ho).2
          have ho2 := own_below ho hb2
          have hb02 := below_trans' hb hb2
          have HOU := Lib.hid (fun V (h : Tch w.heap.size w.heap.size w.heap.size w2 V) => own_rd (h.own hou hX2 hX2 hX2))
          have HBT := Lib.hid (fun V (h : Tch w.heap.size w.heap.size w.heap.size w2 V) => hb02.trans (h.below hb02.size (Nat.le_refl _) (Nat.le_refl _) (Nat.le_refl _)))
          clear hb2 hou hb02 ho hb h10
          go_wp2_with fail
          obtain ⟨wo, rfl⟩ : ∃ wo : World, wo = wr := ⟨_, rfl⟩
          go_loopg [7, 44] us.length (fun l ag i wr => ∃ (j : Nat) (cs : List Nat) (nw : Bool), j ≤ us.length ∧ l = us.length - j ∧ i = .int .i64 j ∧ ag = .bool nw ∧ wr.ownsRow w.heap.size 3 1 (.slice (some ⟨w.heap.size, 0, none⟩) k.procs.length k.procs.length) k.procs.length (nv cs) ∧ EntS k es cs ∧ EnR k es bs (livesL k (us.take j)) nw cs ∧ Tch w.heap.size w.heap.size w.heap.size w2 wr)
          case atStart => exact ⟨0, bs, false, by omega, by omega, rfl, rfl, ho2, HS.out, EnR.refl, Tch.refl _ _ _ _⟩
          case round =>
            clear ho2 HS
            obtain ⟨j, cs, nw, hj, rfl, rfl, rfl, ho, hS, hP, hT⟩ := hrel
            have HS := Lib.hid hS
            have HP := Lib.hid hP
            clear hS hP
            have hb := HBT.out _ hT
            by_cases hlt : j < us.length
            · obtain ⟨adu, eau, _, hcu⟩ := (HOU.out _ hT).nat hlt
              obtain ⟨hpl2, hus⟩ := HUS.out us[j] (List.getElem_mem hlt)
              have HTK := Lib.hid (show livesL k (us.take (j + 1)) = livesL k (us.take j) ++ (listN k.ins.length (LiveP k us[j])).map (fun a => (us[j], a)) from by rw [List.take_succ_eq_append_getElem hlt, livesL_snoc])
              generalize us[j] = p at *
              have HUP := Lib.hid hus
              clear hus
              subst eau
              have hcl := HS.out.le p
              have cp := own_at ho (j := p) hpl2 (nv_get (gt_some (xs := cs) (by rw [HS.out.len]; exact hpl2)))
              have z1 : (0 : Int) ≤ (j : Int) := by omega
              have z2 : (j : Int) < (us.length : Int) := by omega
              have x1 : (0 : Int) ≤ (p : Int) := by omega
              have x2 : (p : Int) < (k.procs.length : Int) := by omega
              go_wp2_with fail
              refine (HFL.out p (gt cs p) hpl2 hcl _ hb).mono ?_
              rintro e w3 ⟨Af, cf, rfl, hof, hb3⟩
              have hX3 := (own_lt ho).2
              have ho3 := own_below ho hb3
              have hb03 := below_trans' hb hb3
              clear hcu cp
              go_wp2_with fail
              refine (HLV.out p hpl2 _ hb03).mono ?_
              rintro e w4 ⟨Al, cl, rfl, hol, hb4⟩
              have hX4 := (own_lt ho3).2
              have ho4 := own_below ho3 hb4
              have hof4 := own_below hof hb4
              have hb04 := below_trans' hb03 hb4
              obtain ⟨hfl1, hfl2⟩ := HFN.out p (gt cs p) hpl2
              have HFL1 := Lib.hid hfl1
              have HFL2 := Lib.hid hfl2
              have HOF := Lib.hid (fun V (h : Tch w.heap.size w.heap.size w.heap.size w4 V) => own_rd (h.own hof4 hX3 hX3 hX3))
              have HOL := Lib.hid (fun V (h : Tch w.heap.size w.heap.size w.heap.size w4 V) => own_rd (h.own hol hX4 hX4 hX4))
              have HBT4 := Lib.hid (fun V (h : Tch w.heap.size w.heap.size w.heap.size w4 V) => hb04.trans (h.below hb04.size (Nat.le_refl _) (Nat.le_refl _) (Nat.le_refl _)))
              have HT4 := Lib.hid ((hT.trans (Tch.of_below hb3)).trans (Tch.of_below hb4))
              have HLL := Lib.hid (show ∀ a ∈ listN k.ins.length (LiveP k p), a < k.ins.length ∧ LiveP k p a from fun a h => mem_listN.1 h)
              have hll := listN_len k.ins.length (LiveP k p)
              have HTOP := Lib.hid (show ∀ ds, FixB k es ds → Sub (gt ds p) (gt cs p) from fun ds hd => (HS.out.top ds hd).2 p)
              have HSTP := Lib.hid (fun ds (h : EntS k es ds) a (ha : LiveP k p a) (h4 : opN k a = 4) => h.step HR.out hpl2 HUP.out ha h4 HTOP.out)
              have HM0 := Lib.hid (show nw = false → gt cs p = gt bs p from fun h => by rw [(HP.out.no h).1])
              have HSAM := Lib.hid (fun dn nw2 ds (h : EnR k es bs dn nw2 ds) a (hm : nw2 = false → gt cs p = gt bs p) he => h.same (p := p) (a := a) hm he)
              clear hfl1 hfl2 hb3 hb4 hof hof4 hol hb hb03 hb04 ho ho3 hT
              generalize flowN k es p (gt cs p) = fl at *
              generalize listN k.ins.length (LiveP k p) = ls at *
              go_wp2_with fail
              obtain ⟨wo2, rfl⟩ : ∃ wo2 : World, wo2 = wr := ⟨_, rfl⟩
              go_loopg [7, 60] ls.length (fun l ag i wr => ∃ (m : Nat) (ds : List Nat) (nw2 : Bool), m ≤ ls.length ∧ l = ls.length - m ∧ i = .int .i64 m ∧ ag = .bool nw2 ∧ wr.ownsRow w.heap.size 3 1 (.slice (some ⟨w.heap.size, 0, none⟩) k.procs.length k.procs.length) k.procs.length (nv ds) ∧ EntS k es ds ∧ (nw2 = false → gt cs p = gt bs p) ∧ EnR k es bs (livesL k (us.take j) ++ (ls.take m).map (fun a => (p, a))) nw2 ds ∧ Tch w.heap.size w.heap.size w.heap.size w4 wr)
              case atStart => exact ⟨0, cs, nw, by omega, by omega, rfl, rfl, ho4, HS.out, HM0.out, by simpa using HP.out, Tch.refl _ _ _ _⟩
              case round =>
                clear ho4
                obtain ⟨m, ds, nw2, hm, rfl, rfl, rfl, ho, hSd, hmd, hPd, hT⟩ := hrel
                have HSD := Lib.hid hSd
                have HMD := Lib.hid hmd
                have HPD := Lib.hid hPd
                clear hSd hmd hPd
                by_cases hltm : m < ls.length
                · have hb := HBT4.out _ hT
                  obtain ⟨adl, eal, _, hcl2⟩ := (HOL.out _ hT).nat hltm
                  obtain ⟨hal, hlv⟩ := HLL.out ls[m] (List.getElem_mem hltm)
                  have HTM := Lib.hid (show livesL k (us.take j) ++ (ls.take (m + 1)).map (fun a => (p, a)) = (livesL k (us.take j) ++ (ls.take m).map (fun a => (p, a))) ++ [(p, ls[m])] from by rw [List.take_succ_eq_append_getElem hltm, List.map_append, List.append_assoc]; rfl)
                  generalize ls[m] = a at *
                  have HLA := Lib.hid hlv
                  clear hlv
                  subst eal
                  obtain ⟨c0, c1, c2, c3, c4⟩ := HKT.out _ hb
                  obtain ⟨ai, A', c', eA, hbi, k0, k1, k2, k3, k4, k5, k6, _⟩ := (HKC.out _ hb).full.i.get hal
                  rw [eA] at c4
                  rw [opN_eq hal] at k0
                  rw [argN_eq HR.out hal] at k1
                  clear eA
                  have z1 : (0 : Int) ≤ (m : Int) := by omega
                  have z2 : (m : Int) < (ls.length : Int) := by omega
                  have x1 : (0 : Int) ≤ (a : Int) := by omega
                  have x2 : (a : Int) < (k.ins.length : Int) := by omega
                  by_cases h4 : opN k a = 4
                  · have hpp := argN_lt HR.out hal (.inl h4)
                    rw [h4] at k0
                    have hfa := HFL2.out a
                    obtain ⟨adf, eaf, _, hcf⟩ := (HOF.out _ hT).nat (j := a) (by rw [HFL1.out]; exact hal)
                    subst eaf
                    rw [gt_get (xs := fl) (by rw [HFL1.out]; exact hal)] at hcf
                    have cq := own_at ho (j := argN k a) hpp (nv_get (gt_some (xs := ds) (by rw [HSD.out.len]; exact hpp)))
                    have hdl := HSD.out.le (argN k a)
                    have ea := i64_and_nat (gt ds (argN k a)) (gt fl a) (by omega) (by omega)
                    have v1 : (0 : Int) ≤ (argN k a : Int) := by omega
                    have v2 : (argN k a : Int) < (k.procs.length : Int) := by omega
                    have bA := below_alloc0 wr (.cells #[.int .i64 4, .int .i64 (argN k a), .int .i64 k.ins[a].term.kind, .int .i64 k.ins[a].term.num, .string k.ins[a].term.name, .slice A' k.ins[a].term.kids.length c', .int .i64 k.ins[a].to] 52)
                    have b0 := box_cell wr #[.int .i64 4, .int .i64 (argN k a), .int .i64 k.ins[a].term.kind, .int .i64 k.ins[a].term.num, .string k.ins[a].term.name, .slice A' k.ins[a].term.kids.length c', .int .i64 k.ins[a].to] 52 0 rfl
                    have b1 := box_cell wr #[.int .i64 4, .int .i64 (argN k a), .int .i64 k.ins[a].term.kind, .int .i64 k.ins[a].term.num, .string k.ins[a].term.name, .slice A' k.ins[a].term.kids.length c', .int .i64 k.ins[a].to] 52 1 rfl
                    have hcf2 := cell_below bA hcf
                    have cq2 := cell_below bA cq
                    have ho2 := own_below ho bA
                    have hT2 := hT.trans (Tch.of_below bA)
                    have fz2 := ho2.frozenAt (argN k a)
                    have HAQ := Lib.hid (show argN k a < ds.length from by rw [HSD.out.len]; exact hpp)
                    by_cases he : gt ds (argN k a) &&& gt fl a = gt ds (argN k a)
                    · have hne : (((gt ds (argN k a) &&& gt fl a : Nat) : Int) != ((gt ds (argN k a) : Nat) : Int)) = false := by rw [he]; simp
                      have HP2 := Lib.hid (HSAM.out _ nw2 ds HPD.out a HMD.out he)
                      clear he h4 bA
                      go_wp2_with fail
                      clear c0 c1 c2 c3 c4 k0 k1 k2 k3 k4 k5 k6 hcf cq hcl2 hT ho hb
                      generalize wr.alloc (.cells #[.int .i64 4, .int .i64 (argN k a), .int .i64 k.ins[a].term.kind, .int .i64 k.ins[a].term.num, .string k.ins[a].term.name, .slice A' k.ins[a].term.kids.length c', .int .i64 k.ins[a].to] 52) = wa at *
                      generalize wr.heap.size = bx at *
                      go_quiet (fail)
                      go_wp2_with fail
                      go_roundg (ls.length - (m + 1))
                      case measure => omega
                      case rel => exact ⟨m + 1, ds, nw2, by omega, rfl, by go_num, rfl, own_below ho2 (below_drewN (Below.refl wa.heap.size wa) nq), HSD.out, HMD.out, by rw [HTM.out]; exact HP2.out, hT2.trans (Tch.of_below (below_drewN (Below.refl wa.heap.size wa) nq))⟩
                    · have hne : (((gt ds (argN k a) &&& gt fl a : Nat) : Int) != ((gt ds (argN k a) : Nat) : Int)) = true := by
                        simp only [bne_iff_ne, ne_eq]
                        omega
                      have HP2 := Lib.hid (HPD.out.less (p := p) HAQ.out he)
                      have HS2 := Lib.hid (HSTP.out ds HSD.out a HLA.out h4)
                      clear he h4 bA
                      go_wp2_with fail
                      clear c0 c1 c2 c3 c4 k0 k1 k2 k3 k4 k5 k6 hcf cq hcl2 hT ho hb
                      generalize wr.alloc (.cells #[.int .i64 4, .int .i64 (argN k a), .int .i64 k.ins[a].term.kind, .int .i64 k.ins[a].term.num, .string k.ins[a].term.name, .slice A' k.ins[a].term.kids.length c', .int .i64 k.ins[a].to] 52) = wa at *
                      generalize wr.heap.size = bx at *
                      go_quiet (fail)
                      have ho3 := own_below ho2 (below_drewN (Below.refl wa.heap.size wa) nq)
                      have hT3 := hT2.trans (Tch.of_below (below_drewN (Below.refl wa.heap.size wa) nq))
                      have b13 := cell_below (below_drewN (Below.refl wa.heap.size wa) nq) b1
                      have hcf3 := cell_below (below_drewN (Below.refl wa.heap.size wa) nq) hcf2
                      have cq3 := cell_below (below_drewN (Below.refl wa.heap.size wa) nq) cq2
                      clear b0 b1 hcf2 cq2 ho2 hT2 fz2
                      generalize wa.drewN nq = wb at *
                      go_wp2_with fail
                      go_still_tail 11, (by kernel_rfl)
                      change wpList _ _ _ _ _ wb.drew
                      have fz3 : wb.drew.frozen? ⟨w.heap.size, argN k a, none⟩ = false := ho3.frozenAt (argN k a)
                      have cq4 : wb.drew.cell? ⟨w.heap.size, argN k a, none⟩ = some (.int .i64 ((gt ds (argN k a) : Nat) : Int)) := cq3
                      have hoD : wb.drew.ownsRow w.heap.size 3 1 (.slice (some ⟨w.heap.size, 0, none⟩) k.procs.length k.procs.length) k.procs.length (nv ds) := ho3
                      obtain ⟨s1, s2⟩ := hoD.stored (argN k a) (.int .i64 ((gt ds (argN k a) &&& gt fl a : Nat) : Int))
                      rw [nv_set] at s1
                      have hTD := hT3.drew.set (a := ⟨w.heap.size, argN k a, none⟩) (.inl rfl) (.int .i64 ((gt ds (argN k a) &&& gt fl a : Nat) : Int))
                      clear b13 hcf3 cq3 ho3 hoD hT3 s2
                      generalize wb.drew = wc at *
                      go_wp2_with fail
                      go_roundg (ls.length - (m + 1))
                      case measure => omega
                      case rel => exact ⟨m + 1, _, true, by omega, rfl, by go_num, rfl, s1, HS2.out, fun hf => by simp at hf, by rw [HTM.out]; exact HP2.out, hTD⟩
                  · have e4 : (opN k a == 4) = false := by simpa using h4
                    have HP2 := Lib.hid (HPD.out.skip (p := p) h4)
                    have bA := below_alloc0 wr (.cells #[.int .i64 (opN k a), .int .i64 (argN k a), .int .i64 k.ins[a].term.kind, .int .i64 k.ins[a].term.num, .string k.ins[a].term.name, .slice A' k.ins[a].term.kids.length c', .int .i64 k.ins[a].to] 52)
                    have b0 := box_cell wr #[.int .i64 (opN k a), .int .i64 (argN k a), .int .i64 k.ins[a].term.kind, .int .i64 k.ins[a].term.num, .string k.ins[a].term.name, .slice A' k.ins[a].term.kids.length c', .int .i64 k.ins[a].to] 52 0 rfl
                    have ho2 := own_below ho bA
                    have hT2 := hT.trans (Tch.of_below bA)
                    clear h4 bA
                    go_wp2_with fail
                    clear c0 c1 c2 c3 c4 k0 k1 k2 k3 k4 k5 k6 hcl2 hT ho hb
                    generalize wr.alloc (.cells #[.int .i64 (opN k a), .int .i64 (argN k a), .int .i64 k.ins[a].term.kind, .int .i64 k.ins[a].term.num, .string k.ins[a].term.name, .slice A' k.ins[a].term.kids.length c', .int .i64 k.ins[a].to] 52) = wa at *
                    generalize wr.heap.size = bx at *
                    go_quiet (fail)
                    go_wp2_with fail
                    go_roundg (ls.length - (m + 1))
                    case measure => omega
                    case rel => exact ⟨m + 1, ds, nw2, by omega, rfl, by go_num, rfl, own_below ho2 (below_drewN (Below.refl wa.heap.size wa) nq), HSD.out, HMD.out, by rw [HTM.out]; exact HP2.out, hT2.trans (Tch.of_below (below_drewN (Below.refl wa.heap.size wa) nq))⟩
                · obtain rfl : m = ls.length := by omega
                  have hp2 := HPD.out
                  rw [List.take_length, ← HTK.out] at hp2
                  have HP2 := Lib.hid hp2
                  clear hp2
                  go_wp2_with fail
                  go_roundg (us.length - (j + 1))
                  case measure => omega
                  case rel => exact ⟨j + 1, ds, nw2, by omega, rfl, by go_num, rfl, ho, HSD.out, HP2.out, HT4.out.trans hT⟩
            · obtain rfl : j = us.length := by omega
              have hp2 := HP.out
              rw [List.take_length] at hp2
              have HP2 := Lib.hid hp2
              clear hp2
              go_wp2_with fail
              go_roundg (2 * cs.sum + (if nw then 1 else 0))
              case measure =>
                cases nw
                · rw [(HP2.out.no rfl).1]; simp
                · have := HP2.out.yes rfl; simp; omega
              case rel => exact ⟨cs, nw, rfl, rfl, ho, HS.out, fun hf => by rw [(HP2.out.no hf).1]; exact (HP2.out.no hf).2, hb⟩

set_option maxRecDepth 100000 in
set_option maxHeartbeats 8000000 in
theorem l15Entries_any {B B' L : Nat} (v : CV) (k : Cd) (A : Option Addr) (c : Nat) (es : List (Int × Int)) (w : World) (hr : Right k) (hk : CodeAt w B v k) (hcb : CdB L k) (hL : L ≤ 1048576) (he : Rd w B' A (effCells es)) (hes : ∀ e ∈ es, effB e = true) (hel : es.length = k.procs.length) :
    Calls Tryz.prog 175 #[.agg #[.slice v.gA k.globals.length v.gc, .slice v.lA k.locks.length v.lc, .slice v.pA k.procs.length v.pc, .slice v.eA k.entry.length v.ec, .slice v.iA k.ins.length v.ic], .slice A k.procs.length c] w fun e w' => NewNats w (entN k es) e w' ∧ EntS k es (entN k es) := by
  have hkf := hk.full
  have hef := he.full
  have hbx := codeBox w v k
  have hins := hr.ins
  have hpl := hr.procs
  have h0p := List.length_pos_of_mem hr.main
  have HR := Lib.hid hr
  have HEL := Lib.hid hr.entry
  have HKC := Lib.hid (fun W (hb : Below w.heap.size w W) => hkf.below hb)
  have HRT := Lib.hid (fun W (hb : Below w.heap.size w W) => l14Roots_any v k W hr (hkf.below hb))
  have HUT := Lib.hid (fun W (hb : Below w.heap.size w W) => l14Used_any v k W hr (hkf.below hb))
  have HLV := Lib.hid (fun p (hp : p < k.procs.length) W (hb : Below w.heap.size w W) => l09Live_any v k p W hr (hkf.below hb) hp)
  have HEN := Lib.hid (fun p (hp : p < k.procs.length) W (hb : Below w.heap.size w W) => l08End_right v k p W hr (hkf.below hb) hcb hL hp)
  have HFL := Lib.hid (fun (p held : Nat) (hp : p < k.procs.length) (hh : held < 64) W (hb : Below w.heap.size w W) => (show Calls Tryz.prog 176 #[.agg #[.slice v.gA k.globals.length v.gc, .slice v.lA k.locks.length v.lc, .slice v.pA k.procs.length v.pc, .slice v.eA k.entry.length v.ec, .slice v.iA k.ins.length v.ic], .slice A k.procs.length c, .int .i64 p, .int .i64 held] W fun e w' => ∃ Af cf, e = .returned (.slice Af k.ins.length cf) ∧ w'.ownsRow W.heap.size 3 1 (.slice Af k.ins.length cf) k.ins.length (nv (flowN k es p held)) ∧ Below W.heap.size W w' from by
    have h := l13From_any v k A c es p held W hr (hkf.below hb) (hef.below hb) hes hel hp hh
    rw [hel] at h
    refine h.mono ?_
    rintro e w' ⟨Af, cf, rfl, ho, hb'⟩
    rw [flowN_len hr hp] at ho ⊢
    exact ⟨Af, cf, rfl, ho, hb'⟩))
  have HFN := Lib.hid (fun (p held : Nat) (hp : p < k.procs.length) => (⟨flowN_len hr hp, flowN_lt hr hp⟩ : (flowN k es p held).length = k.ins.length ∧ ∀ i, gt (flowN k es p held) i < 64))
  have HE0 := Lib.hid (entS0 (es := es) hr)
  have HSTOP := Lib.hid (fun bs (h : EntS k es bs) hf => h.stop hr (fun p hp => used_lt hr hp) hf)
  clear hr hk he hes hkf hef hel hcb
  go_enter Tryz.func175, Tryz.ntmps175
  go_wp2_with fail
  generalize w.alloc (.cells #[.slice v.gA k.globals.length v.gc, .slice v.lA k.locks.length v.lc, .slice v.pA k.procs.length v.pc, .slice v.eA k.entry.length v.ec, .slice v.iA k.ins.length v.ic] 28) = W at hbx ⊢
  refine (HRT.out _ hbx.1).mono ?_
  rintro e w1 ⟨Ar, cr, rfl, hor, hb1⟩
  rw [markL_len]
  have hbx1 := hbx.to hb1
  obtain ⟨q1, q2, c0, c1, c2, c3, c4⟩ := id hbx1
  clear hbx
  go_wp2_with fail
  refine (HUT.out _ hbx1.1).mono ?_
  rintro e w2 ⟨Au, cu, rfl, hou, hb2⟩
  rw [markL_len]
  have hbx2 := hbx1.to hb2
  have hw2 := hbx2.2.1
  have HRR := Lib.hid (fun V (hb : Below w2.heap.size w2 V) => ((own_rd hor).below hb2).full.below hb)
  have HRU := Lib.hid (fun V (hb : Below w2.heap.size w2 V) => (own_rd hou).below hb)
  have ho0 : (w2.alloc (.cells #[] 3)).ownsRow w2.heap.size 3 1 (.slice (some ⟨w2.heap.size, 0, none⟩) 0 0) 0 (nv (ent0 k 0)) := by
    have := World.ownsRow_lit (base := w2.heap.size) (e := 3) (size := 1) w2 #[] 0 (Nat.le_refl _) (by simp) rfl
    simpa [nv, ent0] using this
  have hbA := below_alloc0 w2 (.cells #[] 3)
  have HBX := Lib.hid (fun V (hb : Below w2.heap.size w2 V) => hbx2.to hb)
  obtain ⟨d1, d2, e0, e1, e2, e3, e4⟩ := HBX.out _ hbA
  clear q1 q2 c0 c1 c2 c3 c4 hbx1 hb1 hb2 hor hou hbx2
  go_wp2_with fail
  clear d1 d2 e0 e1 e2 e3 e4
  go_loopg [7, 8] k.procs.length (fun l out i wr => ∃ j : Nat, j ≤ k.procs.length ∧ l = k.procs.length - j ∧ i = .int .i64 j ∧ wr.ownsRow w2.heap.size 3 1 out j (nv (ent0 k j)) ∧ Below w2.heap.size w2 wr)
  case atStart => exact ⟨0, by omega, by omega, rfl, ho0, hbA⟩
  case round =>
    clear ho0 hbA
    obtain ⟨j, hj, rfl, rfl, ho, hb⟩ := hrel
    obtain ⟨co, Ao, rfl⟩ : ∃ co Ao, _ := by
      obtain ⟨Ao, co, e⟩ := own_form ho
      exact ⟨co, Ao, e⟩
    have hsz := hb.size
    obtain ⟨q1, q2, c0, c1, c2, c3, c4⟩ := HBX.out _ hb
    by_cases hlt : j < k.procs.length
    · obtain ⟨adr, ear, _, hcr⟩ := (HRR.out _ hb).mark (j := j) (by rw [markL_len]; exact hlt)
      subst ear
      have z1 : (0 : Int) ≤ (j : Int) := by omega
      have z2 : (j : Int) < (k.procs.length : Int) := by omega
      by_cases hrt : RootP k j
      · rw [mkd_markL_pos hlt hrt] at hcr
        have HS := Lib.hid (show ent0 k (j + 1) = ent0 k j ++ [0] from by rw [ent0_snoc, if_pos hrt])
        clear hrt
        go_wp2_with (at_builtin; refine append_int (z := ((0 : Nat) : Int)) rfl _ _ rfl ho rfl rfl (by omega) hsz ?_; intro A' c' w3 ho3 hg3 _)
        go_roundg (k.procs.length - (j + 1))
        case measure => omega
        case rel => exact ⟨j + 1, by omega, rfl, by go_num, by rw [HS.out, nv_snoc]; exact ho3, below_append hb ho hg3 hsz (Nat.le_refl _)⟩
      · rw [mkd_markL_neg hrt] at hcr
        have HS := Lib.hid (show ent0 k (j + 1) = ent0 k j ++ [63] from by rw [ent0_snoc, if_neg hrt])
        clear hrt
        go_wp2_with (at_builtin; refine append_int (z := ((63 : Nat) : Int)) rfl _ _ rfl ho rfl rfl (by omega) hsz ?_; intro A' c' w3 ho3 hg3 _)
        go_roundg (k.procs.length - (j + 1))
        case measure => omega
        case rel => exact ⟨j + 1, by omega, rfl, by go_num, by rw [HS.out, nv_snoc]; exact ho3, below_append hb ho hg3 hsz (Nat.le_refl _)⟩
    · obtain rfl : j = k.procs.length := by omega
      obtain ⟨gb, rfl⟩ : ∃ gb, Ao = some ⟨gb, 0, none⟩ := by
        rcases ho.2 with ⟨e, h0⟩ | ⟨g, cap, cur, e, _⟩
        · omega
        · injection e with e; exact ⟨g, e⟩
      have hgb : w2.heap.size ≤ gb := (own_lt ho).1
      go_wp2_with fail
      clear q1 q2 c0 c1 c2 c3 c4
      go_loopg [10] (2 * (ent0 k k.procs.length).sum + 1) (fun l ag wr => ∃ (bs : List Nat) (new : Bool), ag = .bool new ∧ l = 2 * bs.sum + (if new then 1 else 0) ∧ wr.ownsRow w2.heap.size 3 1 (.slice (some ⟨gb, 0, none⟩) k.procs.length co) k.procs.length (nv bs) ∧ EntS k es bs ∧ (new = false → ∀ d ∈ livesL k (listN k.procs.length (UsedP k)), opN k d.2 = 4 → Sub (gt bs (argN k d.2)) (gt (flowN k es d.1 (gt bs d.1)) d.2)) ∧ Below w2.heap.size w2 wr)
      case atStart => exact ⟨_, true, rfl, rfl, ho, HE0.out, by simp, hb⟩
      case round =>
        clear ho hb HE0
        obtain ⟨bs, new, rfl, rfl, ho, hS, hfx, hb⟩ := hrel
        have HFX := Lib.hid hfx
        have HS := Lib.hid hS
        clear hfx hS
        cases new
        · have hfin := HSTOP.out bs HS.out (HFX.out rfl)
          have HFI := Lib.hid (show NewNats w (entN k es) (.returned (.slice (some ⟨gb, 0, none⟩) k.procs.length co)) wr ∧ EntS k es (entN k es) from by
            rw [← hfin]
            exact ⟨⟨some ⟨gb, 0, none⟩, co, by rw [HS.out.len], by rw [HS.out.len]; exact own_mono ho (by omega), (HBX.out _ hb).1⟩, HS.out⟩)
          clear hfin
          go_wp2_with fail
          go_ret
          exact HFI.out
        · clear HFX
          go_wp2_with fail
          obtain ⟨wo, rfl⟩ : ∃ wo : World, wo = wr := ⟨_, rfl⟩
          go_loopg [10, 11] k.procs.length (fun l ag i wr => ∃ (p : Nat) (cs : List Nat) (nw : Bool), p ≤ k.procs.length ∧ l = k.procs.length - p ∧ i = .int .i64 p ∧ ag = .bool nw ∧ wr.ownsRow w2.heap.size 3 1 (.slice (some ⟨gb, 0, none⟩) k.procs.length co) k.procs.length (nv cs) ∧ EntS k es cs ∧ EnR k es bs (livesL k (listN p (UsedP k))) nw cs ∧ Below w2.heap.size w2 wr)
          case atStart => exact ⟨0, bs, false, by omega, by omega, rfl, rfl, ho, HS.out, EnR.refl, hb⟩
          case round =>
            clear ho HS hb
            obtain ⟨p, cs, nw, hj, rfl, rfl, rfl, ho, hS, hP, hb⟩ := hrel
            have HS := Lib.hid hS
            have HP := Lib.hid hP
            clear hS hP
            have hbxr := HBX.out _ hb
            obtain ⟨q1, q2, c0, c1, c2, c3, c4⟩ := id hbxr
            by_cases hlt : p < k.procs.length
            · obtain ⟨adu, eau, _, hcu⟩ := (HRU.out _ hb).mark (j := p) (by rw [markL_len]; exact hlt)
              subst eau
              have x1 : (0 : Int) ≤ (p : Int) := by omega
              have x2 : (p : Int) < (k.procs.length : Int) := by omega
              by_cases hus : UsedP k p
              · rw [mkd_markL_pos hlt hus] at hcu
                have HTK := Lib.hid (show livesL k (listN (p + 1) (UsedP k)) = livesL k (listN p (UsedP k)) ++ (listN k.ins.length (LiveP k p)).map (fun a => (p, a)) from by rw [listN_step hus, livesL_snoc])
                have HUP := Lib.hid hus
                clear hus
                have hcl := HS.out.le p
                have cp := own_at ho (j := p) hlt (nv_get (gt_some (xs := cs) (by rw [HS.out.len]; exact hlt)))
                have hfp := HR.out.lt p hlt
                go_wp2_with fail
                go_still_tail 7, (by kernel_rfl)
                change wpList _ _ _ _ _ wr.drew
                go_wp2_with fail
                refine (HFL.out p (gt cs p) hlt hcl _ hbxr.1.drew).mono ?_
                rintro e w3 ⟨Af, cf, rfl, hof, hb3⟩
                have hoD : wr.drew.ownsRow w2.heap.size 3 1 (.slice (some ⟨gb, 0, none⟩) k.procs.length co) k.procs.length (nv cs) := ho
                have hX3 := (own_lt hoD).2
                have ho3 := own_below hoD hb3
                have hb03 : Below w2.heap.size w2 w3 := below_trans' hb.drew hb3
                have hbx3 := HBX.out _ hb03
                clear q1 q2 c0 c1 c2 c3 c4 hcu cp ho hoD hbxr
                obtain ⟨q1, q2, c0, c1, c2, c3, c4⟩ := id hbx3
                go_wp2_with fail
                refine (HLV.out p hlt _ hbx3.1).mono ?_
                rintro e w4 ⟨Al, cl, rfl, hol, hb4⟩
                rw [markL_len]
                have hX4 := (own_lt ho3).2
                have ho4 := own_below ho3 hb4
                have hof4 := own_below hof hb4
                have hb04 := below_trans' hb03 hb4
                obtain ⟨hfl1, hfl2⟩ := HFN.out p (gt cs p) hlt
                have HFL1 := Lib.hid hfl1
                have HFL2 := Lib.hid hfl2
                have HOF := Lib.hid (fun V (h : Tch gb gb gb w4 V) => own_rd (h.own hof4 hX3 hX3 hX3))
                have HOL := Lib.hid (fun V (h : Tch gb gb gb w4 V) => own_rd (h.own hol hX4 hX4 hX4))
                have HBT4 := Lib.hid (fun V (h : Tch gb gb gb w4 V) => hb04.trans (h.below hb04.size hgb hgb hgb))
                have HTOP := Lib.hid (show ∀ ds, FixB k es ds → Sub (gt ds p) (gt cs p) from fun ds hd => (HS.out.top ds hd).2 p)
                have HSTP := Lib.hid (fun ds (h : EntS k es ds) a (ha : LiveP k p a) (h4 : opN k a = 4) => h.step HR.out hlt HUP.out ha h4 HTOP.out)
                have HM0 := Lib.hid (show nw = false → gt cs p = gt bs p from fun h => by rw [(HP.out.no h).1])
                have HSAM := Lib.hid (fun dn nw2 ds (h : EnR k es bs dn nw2 ds) a (hm : nw2 = false → gt cs p = gt bs p) he => h.same (p := p) (a := a) hm he)
                obtain ⟨ade, ee, hbe, hce⟩ := entry_cell HR.out (HKC.out _ (HBX.out _ hb04).1).full hlt
                obtain ⟨r1, r2, d0, d1, d2, d3, d4⟩ := HBX.out _ hb04
                rw [ee] at d3
                have HEE := Lib.hid ee
                have y2 : (p : Int) < (k.entry.length : Int) := by have := HEL.out; omega
                have HL0 := Lib.hid (show listN (ent k p) (LiveP k p) = [] from listN_nil fun i hi => (live_in HR.out hlt hi).2.2.1)
                have HL9 := Lib.hid (show listN k.ins.length (LiveP k p) = listN (fin k p) (LiveP k p) from listN_end (fun i hi => (live_in HR.out hlt hi).2.2.2) hfp.2)
                clear ee hfl1 hfl2 hb3 hb4 hof hof4 hol hb hb03 ho3 q1 q2 c0 c1 c2 c3 c4 hbx3
                generalize flowN k es p (gt cs p) = fl at *
                go_wp2_with fail
                clear d0 d1 d2 d3 d4 r1 r2 hce
                obtain ⟨wo2, rfl⟩ : ∃ wo2 : World, wo2 = wr := ⟨_, rfl⟩
                go_loopg [10, 14] (fin k p - ent k p) (fun l ag i wr => ∃ (m : Nat) (ds : List Nat) (nw2 : Bool), ent k p ≤ m ∧ m ≤ fin k p ∧ l = fin k p - m ∧ i = .int .i64 m ∧ ag = .bool nw2 ∧ wr.ownsRow w2.heap.size 3 1 (.slice (some ⟨gb, 0, none⟩) k.procs.length co) k.procs.length (nv ds) ∧ EntS k es ds ∧ (nw2 = false → gt cs p = gt bs p) ∧ EnR k es bs (livesL k (listN p (UsedP k)) ++ (listN m (LiveP k p)).map (fun a => (p, a))) nw2 ds ∧ Tch gb gb gb w4 wr)
                case atStart => exact ⟨ent k p, cs, nw, by omega, by omega, rfl, rfl, rfl, ho4, HS.out, HM0.out, by rw [HL0.out]; simpa using HP.out, Tch.refl _ _ _ _⟩
                case round =>
                  clear ho4
                  obtain ⟨a, ds, nw2, hm0, hm, rfl, rfl, rfl, ho, hSd, hmd, hPd, hT⟩ := hrel
                  have HSD := Lib.hid hSd
                  have HMD := Lib.hid hmd
                  have HPD := Lib.hid hPd
                  clear hSd hmd hPd
                  have hb := HBT4.out _ hT
                  have hbxr := HBX.out _ hb
                  obtain ⟨q1, q2, c0, c1, c2, c3, c4⟩ := id hbxr
                  go_wp2_with fail
                  refine (HEN.out p hlt _ hbxr.1).mono ?_
                  rintro e w6 ⟨rfl, hb6⟩
                  have ho := own_below ho hb6
                  have hT := hT.trans (Tch.of_below hb6)
                  have hb := HBT4.out _ hT
                  have hbxr := HBX.out _ hb
                  clear q1 q2 c0 c1 c2 c3 c4 hb6
                  by_cases hltm : a < fin k p
                  · have hal : a < k.ins.length := by omega
                    have hle : (a : Int) ≤ ((fin k p - 1 : Nat) : Int) := by omega
                    obtain ⟨q1, q2, c0, c1, c2, c3, c4⟩ := id hbxr
                    obtain ⟨adl, eal, _, hcl2⟩ := (HOL.out _ hT).mark (j := a) (by rw [markL_len]; exact hal)
                    subst eal
                    obtain ⟨ai, A', c', eA, hbi, k0, k1, k2, k3, k4, k5, k6, _⟩ := (HKC.out _ hbxr.1).full.i.get hal
                    rw [eA] at c4
                    rw [opN_eq hal] at k0
                    rw [argN_eq HR.out hal] at k1
                    clear eA
                    have x3 : (0 : Int) ≤ (a : Int) := by omega
                    have x4 : (a : Int) < (k.ins.length : Int) := by omega
                    by_cases hlv : LiveP k p a
                    · rw [mkd_markL_pos hal hlv] at hcl2
                      have HTM := Lib.hid (show livesL k (listN p (UsedP k)) ++ (listN (a + 1) (LiveP k p)).map (fun a => (p, a)) = (livesL k (listN p (UsedP k)) ++ (listN a (LiveP k p)).map (fun a => (p, a))) ++ [(p, a)] from by rw [listN_step hlv, List.map_append, List.append_assoc]; rfl)
                      have HLA := Lib.hid hlv
                      clear hlv
                      by_cases h4 : opN k a = 4
                      · have hpp := argN_lt HR.out hal (.inl h4)
                        rw [h4] at k0
                        have hfa := HFL2.out a
                        obtain ⟨adf, eaf, _, hcf⟩ := (HOF.out _ hT).nat (j := a) (by rw [HFL1.out]; exact hal)
                        subst eaf
                        rw [gt_get (xs := fl) (by rw [HFL1.out]; exact hal)] at hcf
                        have cq := own_at ho (j := argN k a) hpp (nv_get (gt_some (xs := ds) (by rw [HSD.out.len]; exact hpp)))
                        have hdl := HSD.out.le (argN k a)
                        have ea := i64_and_nat (gt ds (argN k a)) (gt fl a) (by omega) (by omega)
                        have v1 : (0 : Int) ≤ (argN k a : Int) := by omega
                        have v2 : (argN k a : Int) < (k.procs.length : Int) := by omega
                        have bA := below_alloc0 w6 (.cells #[.int .i64 4, .int .i64 (argN k a), .int .i64 k.ins[a].term.kind, .int .i64 k.ins[a].term.num, .string k.ins[a].term.name, .slice A' k.ins[a].term.kids.length c', .int .i64 k.ins[a].to] 52)
                        have b0 := box_cell w6 #[.int .i64 4, .int .i64 (argN k a), .int .i64 k.ins[a].term.kind, .int .i64 k.ins[a].term.num, .string k.ins[a].term.name, .slice A' k.ins[a].term.kids.length c', .int .i64 k.ins[a].to] 52 0 rfl
                        have b1 := box_cell w6 #[.int .i64 4, .int .i64 (argN k a), .int .i64 k.ins[a].term.kind, .int .i64 k.ins[a].term.num, .string k.ins[a].term.name, .slice A' k.ins[a].term.kids.length c', .int .i64 k.ins[a].to] 52 1 rfl
                        have hcf2 := cell_below bA hcf
                        have cq2 := cell_below bA cq
                        have hcl3 := cell_below bA hcl2
                        have ho2 := own_below ho bA
                        have hT2 := hT.trans (Tch.of_below bA)
                        have HAQ := Lib.hid (show argN k a < ds.length from by rw [HSD.out.len]; exact hpp)
                        by_cases he : gt ds (argN k a) &&& gt fl a = gt ds (argN k a)
                        · have hne : (((gt ds (argN k a) &&& gt fl a : Nat) : Int) != ((gt ds (argN k a) : Nat) : Int)) = false := by rw [he]; simp
                          have HP2 := Lib.hid (HSAM.out _ nw2 ds HPD.out a HMD.out he)
                          clear he h4 bA
                          go_wp2_with fail
                          clear c0 c1 c2 c3 c4 q1 q2 k0 k1 k2 k3 k4 k5 k6 hcf cq hcl2 hT ho hb hbxr
                          generalize w6.alloc (.cells #[.int .i64 4, .int .i64 (argN k a), .int .i64 k.ins[a].term.kind, .int .i64 k.ins[a].term.num, .string k.ins[a].term.name, .slice A' k.ins[a].term.kids.length c', .int .i64 k.ins[a].to] 52) = wa at *
                          generalize w6.heap.size = bx at *
                          go_quiet (fail)
                          go_wp2_with fail
                          go_roundg (fin k p - (a + 1))
                          case measure => omega
                          case rel => exact ⟨a + 1, ds, nw2, by omega, by omega, rfl, by go_num, rfl, own_below ho2 (below_drewN (Below.refl wa.heap.size wa) nq), HSD.out, HMD.out, by rw [HTM.out]; exact HP2.out, hT2.trans (Tch.of_below (below_drewN (Below.refl wa.heap.size wa) nq))⟩
                        · have hne : (((gt ds (argN k a) &&& gt fl a : Nat) : Int) != ((gt ds (argN k a) : Nat) : Int)) = true := by
                            simp only [bne_iff_ne, ne_eq]
                            omega
                          have HP2 := Lib.hid (HPD.out.less (p := p) HAQ.out he)
                          have HS2 := Lib.hid (HSTP.out ds HSD.out a HLA.out h4)
                          clear he h4 bA
                          go_wp2_with fail
                          clear c0 c1 c2 c3 c4 q1 q2 k0 k1 k2 k3 k4 k5 k6 hcf cq hcl2 hT ho hb hbxr
                          generalize w6.alloc (.cells #[.int .i64 4, .int .i64 (argN k a), .int .i64 k.ins[a].term.kind, .int .i64 k.ins[a].term.num, .string k.ins[a].term.name, .slice A' k.ins[a].term.kids.length c', .int .i64 k.ins[a].to] 52) = wa at *
                          generalize w6.heap.size = bx at *
                          go_quiet (fail)
                          have ho3 := own_below ho2 (below_drewN (Below.refl wa.heap.size wa) nq)
                          have hT3 := hT2.trans (Tch.of_below (below_drewN (Below.refl wa.heap.size wa) nq))
                          have b13 := cell_below (below_drewN (Below.refl wa.heap.size wa) nq) b1
                          have hcf3 := cell_below (below_drewN (Below.refl wa.heap.size wa) nq) hcf2
                          have cq3 := cell_below (below_drewN (Below.refl wa.heap.size wa) nq) cq2
                          clear b0 b1 hcf2 cq2 ho2 hT2 hcl3
                          generalize wa.drewN nq = wb at *
                          go_wp2_with fail
                          go_still_tail 14, (by kernel_rfl)
                          change wpList _ _ _ _ _ wb.drew
                          have fz3 : wb.drew.frozen? ⟨gb, argN k a, none⟩ = false := ho3.frozenAt (argN k a)
                          have cq4 : wb.drew.cell? ⟨gb, argN k a, none⟩ = some (.int .i64 ((gt ds (argN k a) : Nat) : Int)) := cq3
                          have hoD : wb.drew.ownsRow w2.heap.size 3 1 (.slice (some ⟨gb, 0, none⟩) k.procs.length co) k.procs.length (nv ds) := ho3
                          obtain ⟨s1, s2⟩ := hoD.stored (argN k a) (.int .i64 ((gt ds (argN k a) &&& gt fl a : Nat) : Int))
                          rw [nv_set] at s1
                          have hTD := hT3.drew.set (a := ⟨gb, argN k a, none⟩) (.inl rfl) (.int .i64 ((gt ds (argN k a) &&& gt fl a : Nat) : Int))
                          clear b13 hcf3 cq3 ho3 hoD hT3 s2
                          generalize wb.drew = wc at *
                          go_wp2_with fail
                          go_roundg (fin k p - (a + 1))
                          case measure => omega
                          case rel => exact ⟨a + 1, _, true, by omega, by omega, rfl, by go_num, rfl, s1, HS2.out, fun hf => by simp at hf, by rw [HTM.out]; exact HP2.out, hTD⟩
                      · have e4 : (opN k a == 4) = false := by simpa using h4
                        have HP2 := Lib.hid (HPD.out.skip (p := p) h4)
                        have bA := below_alloc0 w6 (.cells #[.int .i64 (opN k a), .int .i64 (argN k a), .int .i64 k.ins[a].term.kind, .int .i64 k.ins[a].term.num, .string k.ins[a].term.name, .slice A' k.ins[a].term.kids.length c', .int .i64 k.ins[a].to] 52)
                        have b0 := box_cell w6 #[.int .i64 (opN k a), .int .i64 (argN k a), .int .i64 k.ins[a].term.kind, .int .i64 k.ins[a].term.num, .string k.ins[a].term.name, .slice A' k.ins[a].term.kids.length c', .int .i64 k.ins[a].to] 52 0 rfl
                        have ho2 := own_below ho bA
                        have hT2 := hT.trans (Tch.of_below bA)
                        have hcl3 := cell_below bA hcl2
                        clear h4 bA
                        go_wp2_with fail
                        clear c0 c1 c2 c3 c4 q1 q2 k0 k1 k2 k3 k4 k5 k6 hcl2 hT ho hb hbxr
                        generalize w6.alloc (.cells #[.int .i64 (opN k a), .int .i64 (argN k a), .int .i64 k.ins[a].term.kind, .int .i64 k.ins[a].term.num, .string k.ins[a].term.name, .slice A' k.ins[a].term.kids.length c', .int .i64 k.ins[a].to] 52) = wa at *
                        generalize w6.heap.size = bx at *
                        go_quiet (fail)
                        go_wp2_with fail
                        go_roundg (fin k p - (a + 1))
                        case measure => omega
                        case rel => exact ⟨a + 1, ds, nw2, by omega, by omega, rfl, by go_num, rfl, own_below ho2 (below_drewN (Below.refl wa.heap.size wa) nq), HSD.out, HMD.out, by rw [HTM.out]; exact HP2.out, hT2.trans (Tch.of_below (below_drewN (Below.refl wa.heap.size wa) nq))⟩
                    · rw [mkd_markL_neg hlv] at hcl2
                      have HTM := Lib.hid (show listN (a + 1) (LiveP k p) = listN a (LiveP k p) from listN_skip hlv)
                      have bA := below_alloc0 w6 (.cells #[.int .i64 (opN k a), .int .i64 (argN k a), .int .i64 k.ins[a].term.kind, .int .i64 k.ins[a].term.num, .string k.ins[a].term.name, .slice A' k.ins[a].term.kids.length c', .int .i64 k.ins[a].to] 52)
                      have ho2 := own_below ho bA
                      have hT2 := hT.trans (Tch.of_below bA)
                      have hcl3 := cell_below bA hcl2
                      clear hlv bA
                      go_wp2_with fail
                      clear c0 c1 c2 c3 c4 q1 q2 k0 k1 k2 k3 k4 k5 k6 hcl2 hT ho hb hbxr
                      generalize w6.alloc (.cells #[.int .i64 (opN k a), .int .i64 (argN k a), .int .i64 k.ins[a].term.kind, .int .i64 k.ins[a].term.num, .string k.ins[a].term.name, .slice A' k.ins[a].term.kids.length c', .int .i64 k.ins[a].to] 52) = wa at *
                      generalize w6.heap.size = bx at *
                      go_quiet (fail)
                      go_wp2_with fail
                      go_roundg (fin k p - (a + 1))
                      case measure => omega
                      case rel => exact ⟨a + 1, ds, nw2, by omega, by omega, rfl, by go_num, rfl, own_below ho2 (below_drewN (Below.refl wa.heap.size wa) nq), HSD.out, HMD.out, by rw [HTM.out]; exact HPD.out, hT2.trans (Tch.of_below (below_drewN (Below.refl wa.heap.size wa) nq))⟩
                  · obtain rfl : a = fin k p := by omega
                    have hle : ¬ ((fin k p : Nat) : Int) ≤ ((fin k p - 1 : Nat) : Int) := by omega
                    have hp2 := HPD.out
                    rw [← HL9.out, ← HTK.out] at hp2
                    have HP2 := Lib.hid hp2
                    clear hp2
                    go_wp2_with fail
                    go_roundg (k.procs.length - (p + 1))
                    case measure => omega
                    case rel => exact ⟨p + 1, ds, nw2, by omega, rfl, by go_num, rfl, ho, HSD.out, HP2.out, hb⟩
              · rw [mkd_markL_neg hus] at hcu
                have HTK := Lib.hid (show listN (p + 1) (UsedP k) = listN p (UsedP k) from listN_skip hus)
                clear hus
                go_wp2_with fail
                go_roundg (k.procs.length - (p + 1))
                case measure => omega
                case rel => exact ⟨p + 1, cs, nw, by omega, rfl, by go_num, rfl, ho, HS.out, by rw [HTK.out]; exact HP.out, hb⟩
            · obtain rfl : p = k.procs.length := by omega
              go_wp2_with fail
              go_roundg (2 * cs.sum + (if nw then 1 else 0))
              case measure =>
                cases nw
                · rw [(HP.out.no rfl).1]; simp
                · have := HP.out.yes rfl; simp; omega
              case rel => exact ⟨cs, nw, rfl, rfl, ho, HS.out, fun hf => by rw [(HP.out.no hf).1]; exact (HP.out.no hf).2, hb⟩
end Go.Proofs.YtkgoajnnkimkaaaGreat
