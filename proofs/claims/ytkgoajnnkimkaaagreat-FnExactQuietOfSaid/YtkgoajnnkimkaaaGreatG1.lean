/- Contracts of flow and l13From: what is held for sure behind the beginning of a procedure. -/
import Derived.Test.YtkgoajnnkimkaaaGreatF3
import Derived.Test.YtkgoajnnkimkaaaGreatD5
import Derived.Test.YtkgoajnnkimkaaaGreatE1
import Derived.Test.YtkgoajnnkimkaaaGreatQ2
set_option linter.unusedSimpArgs false
set_option linter.unusedVariables false
namespace Go.Proofs.YtkgoajnnkimkaaaGreat
open Go.ChangeShapes Go.WideShapes Go.ChangeAt Go.RowKit

theorem zeros_nv (n : Nat) : (List.replicate n (0 : Int)).map iv = nv (List.replicate n 0) := by simp [nv, iv, natI]
theorem effs_keep {k : Cd} {es : List (Int × Int)} (h : tabB k.procs.length es = true) : (∀ e ∈ es, effB e = true) ∧ es.length = k.procs.length := by
  simp only [tabB, Bool.and_eq_true, decide_eq_true_eq, List.all_eq_true] at h
  exact ⟨h.2, h.1⟩
theorem movedV_lt {k : Cd} (hr : Right k) {es : List (Int × Int)} {a m : Nat} (ha : a < k.ins.length) (hm : m < 64) (hes : ∀ e ∈ es, effB e = true) : movedV (opN k a) (argN k a) es m < 64 := by
  have hga : ∀ q, genAt es q < 64 := fun q => by
    unfold genAt
    rcases Nat.lt_or_ge q es.length with h | h
    · rw [List.getElem?_eq_getElem h]
      have h1 := hes _ (List.getElem_mem h)
      simp only [effB, Bool.and_eq_true] at h1
      obtain ⟨x, e, hx⟩ := isSetB_nat h1.2
      simp [e, hx]
    · rw [List.getElem?_eq_none h]; simp
  unfold movedV
  split
  · rename_i h6
    have h1 := argN_lt6 hr ha (.inl h6)
    have h2 := hr.locks
    exact (Nat.or_lt_two_pow (n := 6) hm (Nat.pow_lt_pow_right (by omega) (by omega) : 2 ^ argN k a < 2 ^ 6) : _ < 2 ^ 6)
  · split
    · exact Nat.lt_of_le_of_lt (andNot_le _ _) hm
    · split
      · exact (Nat.or_lt_two_pow (n := 6) (Nat.lt_of_le_of_lt Nat.and_le_left hm) (hga _) : _ < 2 ^ 6)
      · exact hm
/-- What a procedure's flow is at the beginning of a walk. -/
theorem flow_fill {k : Cd} {xs : List Nat} (hl : xs.length = k.ins.length) (h : ∀ i, i < k.ins.length → gt xs i = 63) : xs = List.replicate k.ins.length 63 :=
  gt_ext (by simp [hl]) fun i hi => by rw [h i (by omega), gt_replicate (by omega)]

set_option maxRecDepth 100000 in
set_option maxHeartbeats 8000000 in
theorem flow_any {B B' : Nat} (g : Nat) (v : CV) (k : Cd) (A : Option Addr) (c : Nat) (es : List (Int × Int)) (p held : Nat) (w : World) (hr : Right k) (hW : WAt w B g v k) (he : Rd w B' A (effCells es)) (hes : ∀ e ∈ es, effB e = true) (hel : es.length = k.procs.length) (hp : p < k.procs.length) (hh : held < 64) :
    Calls Tryz.prog 91 #[.pointer (some ⟨g, 0, none⟩), .slice A es.length c, .int .i64 p, .int .i64 held] w (NewNats w (flowN k es p held)) := by
  have hWf := hW.full
  have hkf := hWf.code
  have hef := he.full
  have hins := hr.ins
  have hpl := hr.procs
  have hente := hr.entry
  have helt := ent_lt hr hp
  have HR := Lib.hid hr
  have HKT := Lib.hid (fun W (hb : Below w.heap.size w W) => hWf.kat.to hb)
  have HKC := Lib.hid (fun W (hb : Below w.heap.size w W) => hkf.below hb)
  have HLV := Lib.hid (fun W (hb : Below w.heap.size w W) => liveOf_any g v k p W hr (hkf.below hb) (hWf.kat.to hb) (hWf.live.below hb (Nat.le_refl _)) hp)
  have HNX := Lib.hid (fun a (ha : a < k.ins.length) W (hb : Below w.heap.size w W) => nextIn_any g v k a W hr (hkf.below hb) (hWf.kat.to hb) ha)
  have HBH := Lib.hid (fun a (ha : a < k.ins.length) m (hm : m < 64) (t : Tm) (tt : Int) Ak ck W (hb : Below w.heap.size w W) => behind_any (opN k a) ((argN k a : Nat) : Int) (argN k a) t tt Ak A ck c es m W (hef.below hb) (by omega) hes hm rfl (fun h => Nat.lt_of_lt_of_le (argN_lt6 hr ha h) hr.locks) (fun h => by rw [hel]; exact argN_lt hr ha (.inl h)))
  have HML := Lib.hid (fun a (ha : a < k.ins.length) m (hm : m < 64) => movedV_lt hr ha hm hes)
  have HF0 := Lib.hid (flowing0 hr (es := es) hp hh)
  have HLP := Lib.hid (show ∀ a ∈ listN k.ins.length (LiveP k p), a < k.ins.length ∧ LiveP k p a from fun a h => mem_listN.1 h)
  have hll := listN_len k.ins.length (LiveP k p)
  have HST := Lib.hid (fun xs (h : Flowing k es p held xs) hf => h.stop2 hr hp hf)
  have HSP := Lib.hid (fun xs a n m (h : Flowing k es p held xs) (ha : LiveP k p a) (hn : n ∈ nextL k a) (hm : m < 64) (hv : Sub (gt xs a) m) => h.step hr hp ha hn hm hv)
  obtain ⟨ade, ee, hbe, hce⟩ := entry_cell hr hkf.full hp
  have HEE := Lib.hid ee
  have HCE := Lib.hid (fun W (hb : Below w.heap.size w W) => cell_below hb hce)
  obtain ⟨c0, c1, c2, c3, c4⟩ := hWf.kat
  have y1 : (0 : Int) ≤ (p : Int) := by omega
  have y2 : (p : Int) < (k.entry.length : Int) := by omega
  have y3 : (0 : Int) ≤ (ent k p : Int) := by omega
  have y4 : (ent k p : Int) < (k.ins.length : Int) := by omega
  clear hr hW he hes hkf hef hWf ee hce hel
  generalize listN k.ins.length (LiveP k p) = ls at *
  go_enter Tryz.func91, Tryz.ntmps91
  go_wp2_with (at_make; refine make_ints _ rfl _ _ rfl k.ins.length rfl rfl (by omega) ?_; intro w1 hown hb1)
  rw [zeros_nv] at hown
  clear c0 c1 c2 c3 c4
  go_loopg [27] k.ins.length (fun l i wr => ∃ (j : Nat) (xs : List Nat), j ≤ k.ins.length ∧ l = k.ins.length - j ∧ i = .int .i64 j ∧ wr.ownsRow w.heap.size 3 1 (.slice (some ⟨w.heap.size, 0, none⟩) k.ins.length k.ins.length) k.ins.length (nv xs) ∧ xs.length = k.ins.length ∧ (∀ q, q < j → gt xs q = 63) ∧ Below w.heap.size w wr)
  case atStart => exact ⟨0, _, by omega, by omega, rfl, hown, by simp, fun q h => by omega, hb1⟩
  case round =>
    clear hown hb1
    obtain ⟨j, xs, hj, rfl, rfl, ho, hxl, hfl, hb⟩ := hrel
    have HFL := Lib.hid hfl
    clear hfl
    by_cases hlt : j < k.ins.length
    · obtain ⟨u, hu⟩ := own_has ho (j := j) (by omega)
      have fz := ho.frozenAt j
      have z1 : (0 : Int) ≤ (j : Int) := by omega
      have z2 : (j : Int) < (k.ins.length : Int) := by omega
      go_wp2_with fail
      obtain ⟨s1, s2⟩ := ho.stored j (.int .i64 ((63 : Nat) : Int))
      rw [nv_set] at s1
      go_roundg (k.ins.length - (j + 1))
      case measure => omega
      case rel => exact ⟨j + 1, xs.set j 63, by omega, rfl, by go_num, s1, by simp [hxl], fun q hq => (by
        rw [gt_set (by omega)]
        split
        · rfl
        · exact HFL.out q (by omega)), hb.grown s2 hb.size (fun k hk => by cases hk; exact Nat.le_refl _)⟩
    · obtain rfl : j = k.ins.length := by omega
      have hx := flow_fill hxl HFL.out
      subst hx
      clear hxl HFL
      obtain ⟨c0, c1, c2, c3, c4⟩ := HKT.out wr hb
      rw [HEE.out] at c3
      have hce := HCE.out wr hb
      obtain ⟨u, hu⟩ := own_has ho (j := ent k p) (by omega)
      have fz := ho.frozenAt (ent k p)
      go_wp2_with fail
      obtain ⟨s1, s2⟩ := ho.stored (ent k p) (.int .i64 ((held : Nat) : Int))
      rw [nv_set] at s1
      have hb2 := hb.grown s2 hb.size (fun k hk => by cases hk; exact Nat.le_refl _)
      clear c0 c1 c2 c3 c4 hce hu fz ho s2 hb
      generalize wr.setCell ⟨w.heap.size, ent k p, none⟩ (.int .i64 (held : Int)) = w2 at *
      refine (HLV.out _ hb2).mono ?_
      rintro e w3 ⟨Al, cl, rfl, hol, hb3⟩
      have hX := (own_lt s1).2
      have ho3 := own_below s1 hb3
      have hb03 := below_trans' hb2 hb3
      have HB3 := Lib.hid hb03
      have hs3 := hb03.size
      have HOL := Lib.hid (fun wr (hT : Tch w.heap.size w.heap.size w.heap.size w3 wr) => own_rd (hT.own hol hX hX hX))
      have HBT := Lib.hid (fun wr (hT : Tch w.heap.size w.heap.size w.heap.size w3 wr) => HB3.out.trans (hT.below hs3 (Nat.le_refl _) (Nat.le_refl _) (Nat.le_refl _)))
      clear s1 hb2 hb3 hol hb03
      go_wp2_with fail
      go_loopg [12] (2 * ((List.replicate k.ins.length 63).set (ent k p) held).sum + 1) (fun l ag wr => ∃ (xs : List Nat) (new : Bool), ag = .bool new ∧ l = 2 * xs.sum + (if new then 1 else 0) ∧ wr.ownsRow w.heap.size 3 1 (.slice (some ⟨w.heap.size, 0, none⟩) k.ins.length k.ins.length) k.ins.length (nv xs) ∧ Flowing k es p held xs ∧ (new = false → ∀ d ∈ pairsL k ls, Sub (gt xs d.2) (movedV (opN k d.1) (argN k d.1) es (gt xs d.1))) ∧ Tch w.heap.size w.heap.size w.heap.size w3 wr)
      case atStart => exact ⟨_, true, rfl, rfl, ho3, HF0.out, by simp, Tch.refl _ _ _ _⟩
      case round =>
        clear ho3
        obtain ⟨xs, new, rfl, rfl, hox, hFl, hfx, hT⟩ := hrel
        have HFX := Lib.hid hfx
        clear hfx
        cases new
        · have e := HST.out xs hFl (HFX.out rfl)
          have hxl := hFl.len
          have HFI := Lib.hid (show NewNats w (flowN k es p held) (.returned (.slice (some ⟨w.heap.size, 0, none⟩) k.ins.length k.ins.length)) wr from by
            rw [← e]
            exact ⟨some ⟨w.heap.size, 0, none⟩, k.ins.length, by rw [hxl], by rw [hxl]; exact hox, HBT.out _ hT⟩)
          clear e hxl
          go_wp2_with fail
          go_ret
          exact HFI.out
        · go_wp2_with fail
          clear HFX
          obtain ⟨wo, rfl⟩ : ∃ wo : World, wo = wr := ⟨_, rfl⟩
          go_loopg [12, 51] ls.length (fun l ag i wr => ∃ (j : Nat) (ys : List Nat) (nw : Bool), j ≤ ls.length ∧ l = ls.length - j ∧ i = .int .i64 j ∧ ag = .bool nw ∧ wr.ownsRow w.heap.size 3 1 (.slice (some ⟨w.heap.size, 0, none⟩) k.ins.length k.ins.length) k.ins.length (nv ys) ∧ Flowing k es p held ys ∧ FlR k es xs (pairsL k (ls.take j)) nw ys ∧ Tch w.heap.size w.heap.size w.heap.size w3 wr)
          case atStart => exact ⟨0, xs, false, by omega, by omega, rfl, rfl, hox, hFl, FlR.refl, hT⟩
          case round =>
            clear hox hFl hT
            obtain ⟨j, ys, nw, hj, rfl, rfl, rfl, hox, hFl, hP, hT⟩ := hrel
            have HP := Lib.hid hP
            have HFl := Lib.hid hFl
            clear hP hFl
            by_cases hlt : j < ls.length
            · have hb0 := HBT.out _ hT
              obtain ⟨adl, eal, _, hcl⟩ := (HOL.out _ hT).nat hlt
              obtain ⟨hal, hlv⟩ := HLP.out ls[j] (List.getElem_mem hlt)
              have HTK := Lib.hid (show pairsL k (ls.take (j + 1)) = pairsL k (ls.take j) ++ (nextL k ls[j]).map (fun n => (ls[j], n)) from by rw [List.take_succ_eq_append_getElem hlt, pairsL_snoc])
              generalize ls[j] = a at *
              have HLA := Lib.hid hlv
              clear hlv
              subst eal
              obtain ⟨c0, c1, c2, c3, c4⟩ := HKT.out _ hb0
              obtain ⟨ai, A', c', eA, hbi, k0, k1, k2, k3, k4, k5, k6, _⟩ := (HKC.out _ hb0).full.i.get hal
              rw [eA] at c4
              rw [opN_eq hal] at k0
              rw [argN_eq HR.out hal] at k1
              clear eA
              have cx := own_at hox (j := a) hal (nv_get (gt_some (xs := ys) (by rw [HFl.out.len]; exact hal)))
              have hyl := HFl.out.le a
              have z1 : (0 : Int) ≤ (j : Int) := by omega
              have z2 : (j : Int) < (ls.length : Int) := by omega
              have x1 : (0 : Int) ≤ (a : Int) := by omega
              have x2 : (a : Int) < (k.ins.length : Int) := by omega
              go_wp2_with fail
              go_still_tail 13, (by kernel_rfl)
              change wpList _ _ _ _ _ wr.drew
              go_wp2_with fail
              refine (HBH.out a hal (gt ys a) hyl k.ins[a].term k.ins[a].to A' c' _ hb0.drew).mono ?_
              rintro e w5 ⟨rfl, hb5⟩
              have hb05 := below_trans' hb0.drew hb5
              have hml := HML.out a hal (gt ys a) hyl
              clear c0 c1 c2 c3 c4 k0 k1 k2 k3 k4 k5 k6 cx hcl hb0
              go_wp2_with fail
              refine (HNX.out a hal _ hb05).mono ?_
              rintro e w6 ⟨An, cn, rfl, hon, hb6⟩
              have hT6 := (hT.drew.trans (Tch.of_below hb5)).trans (Tch.of_below hb6)
              have hX5 : w.heap.size < w5.heap.size := by
                have h1 := hb5.size
                have h2 := (own_lt hox).2
                exact Nat.lt_of_lt_of_le h2 h1
              have hox6 := own_below (own_below (w := wr.drew) hox hb5) hb6
              have hnl := nextL_len k a
              have HNI := Lib.hid (show ∀ n ∈ nextL k a, n < k.ins.length ∧ n ∈ nextL k a from fun n hn => ⟨(nextL_in HR.out hal hn).1, hn⟩)
              have HON := Lib.hid (fun W (h : Tch w.heap.size w.heap.size w.heap.size w6 W) => own_rd (h.own hon hX5 hX5 hX5))
              have HT6 := Lib.hid hT6
              clear hT hon hb5 hb6 hb05 hox hT6
              have HSPA := Lib.hid (fun zs n (h : Flowing k es p held zs) (hn : n ∈ nextL k a) (hv : Sub (gt zs a) (gt ys a)) => HSP.out zs a n (gt ys a) h HLA.out hn hyl hv)
              have HP0 := Lib.hid (show nw = false → gt ys a = gt xs a from fun h => by rw [(HP.out.no h).1])
              have HPS := Lib.hid (fun dn nw2 zs n (h : FlR k es xs dn nw2 zs) (hn : n < zs.length) (hm : nw2 = false → gt ys a = gt xs a) => h.step (a := a) (m := gt ys a) hn hm)
              generalize movedV (opN k a) (argN k a) es (gt ys a) = h at *
              generalize nextL k a = ns at *
              go_wp2_with fail
              obtain ⟨wo2, rfl⟩ : ∃ wo2 : World, wo2 = wr := ⟨_, rfl⟩
              go_loopg [12, 73] ns.length (fun l ag i wr => ∃ (m : Nat) (zs : List Nat) (nw2 : Bool), m ≤ ns.length ∧ l = ns.length - m ∧ i = .int .i64 m ∧ ag = .bool nw2 ∧ wr.ownsRow w.heap.size 3 1 (.slice (some ⟨w.heap.size, 0, none⟩) k.ins.length k.ins.length) k.ins.length (nv zs) ∧ Flowing k es p held zs ∧ Sub (gt zs a) (gt ys a) ∧ (nw2 = false → gt ys a = gt xs a) ∧ FlR k es xs (pairsL k (ls.take j) ++ (ns.take m).map (fun n => (a, n))) nw2 zs ∧ Tch w.heap.size w.heap.size w.heap.size w6 wr)
              case atStart => exact ⟨0, ys, nw, by omega, by omega, rfl, rfl, hox6, HFl.out, Sub.refl _, HP0.out, by simpa using HP.out, Tch.refl _ _ _ _⟩
              case round =>
                clear hox6
                obtain ⟨m, zs, nw2, hm, rfl, rfl, rfl, hoz, hFz, hsz, hnz, hPz, hTz⟩ := hrel
                have HFZ := Lib.hid hFz
                have HSZ := Lib.hid hsz
                have HNZ := Lib.hid hnz
                have HPZ := Lib.hid hPz
                clear hFz hsz hnz hPz
                by_cases hltm : m < ns.length
                · obtain ⟨adn, ean, _, hcn⟩ := (HON.out _ hTz).nat hltm
                  obtain ⟨hnl2, hnm⟩ := HNI.out ns[m] (List.getElem_mem hltm)
                  have HTM := Lib.hid (show pairsL k (ls.take j) ++ (ns.take (m + 1)).map (fun n => (a, n)) = (pairsL k (ls.take j) ++ (ns.take m).map (fun n => (a, n))) ++ [(a, ns[m])] from by rw [List.take_succ_eq_append_getElem hltm, List.map_append, List.append_assoc]; rfl)
                  generalize ns[m] = n at *
                  have HNM := Lib.hid hnm
                  clear hnm
                  subst ean
                  have cz := own_at hoz (j := n) hnl2 (nv_get (gt_some (xs := zs) (by rw [HFZ.out.len]; exact hnl2)))
                  have fz := hoz.frozenAt n
                  have hzl := HFZ.out.le n
                  have HFN := Lib.hid (HSPA.out zs n HFZ.out HNM.out HSZ.out)
                  have HPN := Lib.hid (HPS.out _ nw2 zs n HPZ.out (by rw [HFZ.out.len]; exact hnl2) HNZ.out)
                  have HSN := Lib.hid (((fstep_sub h zs n).2 a).trans HSZ.out)
                  have ea := i64_and_nat (gt zs n) h (by omega) (by omega)
                  have z1 : (0 : Int) ≤ (m : Int) := by omega
                  have z2 : (m : Int) < (ns.length : Int) := by omega
                  have x1 : (0 : Int) ≤ (n : Int) := by omega
                  have x2 : (n : Int) < (k.ins.length : Int) := by omega
                  have HZL := Lib.hid (show n < zs.length from by rw [HFZ.out.len]; exact hnl2)
                  by_cases he : gt zs n &&& h = gt zs n
                  · have hne : (((gt zs n &&& h : Nat) : Int) != ((gt zs n : Nat) : Int)) = false := by rw [he]; simp
                    have HPB := Lib.hid (show (gt zs n &&& h != gt zs n) = false from by rw [he]; simp)
                    have HFE := Lib.hid (fstep_same HZL.out he)
                    clear he
                    go_wp2_with fail
                    go_quiet (fail)
                    go_wp2_with fail
                    go_roundg (ns.length - (m + 1))
                    case measure => omega
                    case rel =>
                      have hp2 := HPN.out
                      rw [HPB.out, HFE.out, Bool.or_false] at hp2
                      exact ⟨m + 1, zs, nw2, by omega, rfl, by go_num, rfl, hoz, HFZ.out, HSZ.out, HNZ.out, by rw [HTM.out]; exact hp2, hTz.trans (Tch.of_below (below_drewN (Below.refl wr.heap.size wr) nq))⟩
                  · have hne : (((gt zs n &&& h : Nat) : Int) != ((gt zs n : Nat) : Int)) = true := by
                      simp only [bne_iff_ne, ne_eq]
                      omega
                    have HPB := Lib.hid (show (gt zs n &&& h != gt zs n) = true from by simpa using he)
                    clear he
                    have cz' : wr.drew.cell? ⟨w.heap.size, n, none⟩ = some (.int .i64 ((gt zs n : Nat) : Int)) := cz
                    have fz' : wr.drew.frozen? ⟨w.heap.size, n, none⟩ = false := fz
                    go_wp2_with fail
                    go_quiet (fail)
                    go_wp2_with fail
                    obtain ⟨s1, s2⟩ := (own_below hoz (below_drewN (Below.refl wr.heap.size wr) nq)).stored n (.int .i64 ((gt zs n &&& h : Nat) : Int))
                    rw [nv_set] at s1
                    go_roundg (ns.length - (m + 1))
                    case measure => omega
                    case rel =>
                      have hp2 := HPN.out
                      rw [HPB.out, Bool.or_true] at hp2
                      exact ⟨m + 1, fstep h zs n, true, by omega, rfl, by go_num, rfl, s1, HFN.out, HSN.out, fun hf => by simp at hf, by rw [HTM.out]; exact hp2, (hTz.trans (Tch.of_below (below_drewN (Below.refl wr.heap.size wr) nq))).set (.inl rfl) _⟩
                · obtain rfl : m = ns.length := by omega
                  have hp2 := HPZ.out
                  rw [List.take_length, ← HTK.out] at hp2
                  have HP2 := Lib.hid hp2
                  clear hp2
                  go_wp2_with fail
                  go_roundg (ls.length - (j + 1))
                  case measure => omega
                  case rel => exact ⟨j + 1, zs, nw2, by omega, rfl, by go_num, rfl, hoz, HFZ.out, HP2.out, HT6.out.trans hTz⟩
            · obtain rfl : j = ls.length := by omega
              have hp2 := HP.out
              rw [List.take_length] at hp2
              have HP2 := Lib.hid hp2
              clear hp2
              go_wp2_with fail
              go_roundg (2 * ys.sum + (if nw then 1 else 0))
              case measure =>
                cases nw
                · rw [(HP2.out.no rfl).1]; simp
                · have := HP2.out.yes rfl; simp; omega
              case rel => exact ⟨ys, nw, rfl, rfl, hox, HFl.out, fun hf => by rw [(HP2.out.no hf).1]; exact (HP2.out.no hf).2, hT⟩

set_option maxRecDepth 100000 in
set_option maxHeartbeats 8000000 in
theorem l13From_any {B B' : Nat} (v : CV) (k : Cd) (A : Option Addr) (c : Nat) (es : List (Int × Int)) (p held : Nat) (w : World) (hr : Right k) (hk : CodeAt w B v k) (he : Rd w B' A (effCells es)) (hes : ∀ e ∈ es, effB e = true) (hel : es.length = k.procs.length) (hp : p < k.procs.length) (hh : held < 64) :
    Calls Tryz.prog 176 #[.agg #[.slice v.gA k.globals.length v.gc, .slice v.lA k.locks.length v.lc, .slice v.pA k.procs.length v.pc, .slice v.eA k.entry.length v.ec, .slice v.iA k.ins.length v.ic], .slice A es.length c, .int .i64 p, .int .i64 held] w (NewNats w (flowN k es p held)) := by
  have hkf := hk.full
  have hef := he.full
  have hbx := codeBox w v k
  have hins := hr.ins
  have hpl := hr.procs
  have helt := ent_lt hr hp
  have HR := Lib.hid hr
  have HEL := Lib.hid hr.entry
  have HKC := Lib.hid (fun W (hb : Below w.heap.size w W) => hkf.below hb)
  have HLV := Lib.hid (fun W (hb : Below w.heap.size w W) => l09Live_any v k p W hr (hkf.below hb) hp)
  have HMK := Lib.hid (fun A c W B' (h : Rd W B' A ((markL k.ins.length (LiveP k p)).map bv)) => (show Calls Tryz.prog 109 #[.slice A k.ins.length c] W (NewNats W (listN k.ins.length (LiveP k p))) from by
    have HD := l09Marked_any A c (markL k.ins.length (LiveP k p)) W h (by rw [markL_len]; omega)
    rw [listN_markL, markL_len] at HD
    exact HD))
  have HNX := Lib.hid (fun a (ha : a < k.ins.length) W (hb : Below w.heap.size w W) => l09Next_any v k a W hr (hkf.below hb) ha)
  have HMV0 := Lib.hid (fun a (ha : a < k.ins.length) m (hm : m < 64) (t : Tm) (tt : Int) Ak ck W (hb : Below w.heap.size w W) => l13Moved_any (opN k a) ((argN k a : Nat) : Int) (argN k a) t tt Ak A ck c es m W (hef.below hb) (by omega) hes hm rfl (fun h => Nat.lt_of_lt_of_le (argN_lt6 hr ha h) hr.locks) (fun h => by rw [hel]; exact argN_lt hr ha (.inl h)))
  have HML := Lib.hid (fun a (ha : a < k.ins.length) m (hm : m < 64) => movedV_lt hr ha hm hes)
  have HF0 := Lib.hid (flowing0 hr (es := es) hp hh)
  have HLP := Lib.hid (show ∀ a ∈ listN k.ins.length (LiveP k p), a < k.ins.length ∧ LiveP k p a from fun a h => mem_listN.1 h)
  have hll := listN_len k.ins.length (LiveP k p)
  have HST := Lib.hid (fun xs (h : Flowing k es p held xs) hf => h.stop2 hr hp hf)
  have HSP := Lib.hid (fun xs a n m (h : Flowing k es p held xs) (ha : LiveP k p a) (hn : n ∈ nextL k a) (hm : m < 64) (hv : Sub (gt xs a) m) => h.step hr hp ha hn hm hv)
  obtain ⟨ade, ee, hbe, hce⟩ := entry_cell hr hkf.full hp
  have HEE := Lib.hid ee
  have HCE := Lib.hid (fun W (hb : Below w.heap.size w W) => cell_below hb hce)
  have y1 : (0 : Int) ≤ (p : Int) := by omega
  have y2 : (p : Int) < (k.entry.length : Int) := by have := HEL.out; omega
  have y3 : (0 : Int) ≤ (ent k p : Int) := by omega
  have y4 : (ent k p : Int) < (k.ins.length : Int) := by omega
  clear hr hk he hes hkf hef ee hce hel
  generalize listN k.ins.length (LiveP k p) = ls at *
  go_enter Tryz.func176, Tryz.ntmps176
  go_wp2_with (at_make; generalize w.alloc (.cells #[.slice v.gA k.globals.length v.gc, .slice v.lA k.locks.length v.lc, .slice v.pA k.procs.length v.pc, .slice v.eA k.entry.length v.ec, .slice v.iA k.ins.length v.ic] 28) = W at hbx ⊢; refine make_ints _ rfl _ _ rfl k.ins.length rfl rfl (by omega) ?_; intro w1 hown hb1)
  rw [zeros_nv] at hown
  have hwW := hbx.2.1
  have hbW := hbx.1
  go_loopg [10] k.ins.length (fun l i wr => ∃ (j : Nat) (xs : List Nat), j ≤ k.ins.length ∧ l = k.ins.length - j ∧ i = .int .i64 j ∧ wr.ownsRow W.heap.size 3 1 (.slice (some ⟨W.heap.size, 0, none⟩) k.ins.length k.ins.length) k.ins.length (nv xs) ∧ xs.length = k.ins.length ∧ (∀ q, q < j → gt xs q = 63) ∧ Below W.heap.size W wr)
  case atStart => exact ⟨0, _, by omega, by omega, rfl, hown, by simp, fun q h => by omega, hb1⟩
  case round =>
    clear hown hb1
    obtain ⟨j, xs, hj, rfl, rfl, ho, hxl, hfl, hb⟩ := hrel
    have HFL := Lib.hid hfl
    clear hfl
    by_cases hlt : j < k.ins.length
    · obtain ⟨u, hu⟩ := own_has ho (j := j) (by omega)
      have fz := ho.frozenAt j
      have z1 : (0 : Int) ≤ (j : Int) := by omega
      have z2 : (j : Int) < (k.ins.length : Int) := by omega
      go_wp2_with fail
      obtain ⟨s1, s2⟩ := ho.stored j (.int .i64 ((63 : Nat) : Int))
      rw [nv_set] at s1
      go_roundg (k.ins.length - (j + 1))
      case measure => omega
      case rel => exact ⟨j + 1, xs.set j 63, by omega, rfl, by go_num, s1, by simp [hxl], fun q hq => (by
        rw [gt_set (by omega)]
        split
        · rfl
        · exact HFL.out q (by omega)), hb.grown s2 hb.size (fun k hk => by cases hk; exact Nat.le_refl _)⟩
    · obtain rfl : j = k.ins.length := by omega
      have hx := flow_fill hxl HFL.out
      subst hx
      clear hxl HFL
      have hb1x := hbx.to hb
      obtain ⟨q1, q2, c0, c1, c2, c3, c4⟩ := id hb1x
      rw [HEE.out] at c3
      have hce := HCE.out wr hb1x.1
      obtain ⟨u, hu⟩ := own_has ho (j := ent k p) (by omega)
      have fz := ho.frozenAt (ent k p)
      have hb2 := hb.grown (ho.stored (ent k p) (.int .i64 ((held : Nat) : Int))).2 hb.size (fun k hk => by cases hk; exact Nat.le_refl _)
      have hbx2 := hbx.to hb2
      obtain ⟨q1', q2', d0, d1, d2, d3, d4⟩ := id hbx2
      go_wp2_with fail
      obtain ⟨s1, s2⟩ := ho.stored (ent k p) (.int .i64 ((held : Nat) : Int))
      rw [nv_set] at s1
      clear c0 c1 c2 c3 c4 hce hu fz ho s2 hb d0 d1 d2 d3 d4 q1 q2 q1' q2' hb1x
      generalize wr.setCell ⟨W.heap.size, ent k p, none⟩ (.int .i64 (held : Int)) = w2 at *
      refine (HLV.out _ hbx2.1).mono ?_
      rintro e w2a ⟨Am, cm, rfl, hom, hb2a⟩
      rw [markL_len]
      have ho2a := own_below s1 hb2a
      have hb02a := below_trans' hb2 hb2a
      go_wp2_with fail
      refine (HMK.out Am cm _ _ (own_rd hom)).mono ?_
      rintro e w3 ⟨Al, cl, rfl, hol, hb3⟩
      have hX := (own_lt ho2a).2
      have ho3 := own_below ho2a hb3
      have hb03 := below_trans' hb02a hb3
      have HB3 := Lib.hid hb03
      have hs3 := hb03.size
      have HOL := Lib.hid (fun wr (hT : Tch W.heap.size W.heap.size W.heap.size w3 wr) => own_rd (hT.own hol hX hX hX))
      have HBT := Lib.hid (fun wr (hT : Tch W.heap.size W.heap.size W.heap.size w3 wr) => HB3.out.trans (hT.below hs3 (Nat.le_refl _) (Nat.le_refl _) (Nat.le_refl _)))
      clear s1 hb2 hb3 hol hb03 hbx2 hom hb2a hb02a ho2a
      go_wp2_with fail
      go_loopg [13] (2 * ((List.replicate k.ins.length 63).set (ent k p) held).sum + 1) (fun l ag wr => ∃ (xs : List Nat) (new : Bool), ag = .bool new ∧ l = 2 * xs.sum + (if new then 1 else 0) ∧ wr.ownsRow W.heap.size 3 1 (.slice (some ⟨W.heap.size, 0, none⟩) k.ins.length k.ins.length) k.ins.length (nv xs) ∧ Flowing k es p held xs ∧ (new = false → ∀ d ∈ pairsL k ls, Sub (gt xs d.2) (movedV (opN k d.1) (argN k d.1) es (gt xs d.1))) ∧ Tch W.heap.size W.heap.size W.heap.size w3 wr)
      case atStart => exact ⟨_, true, rfl, rfl, ho3, HF0.out, by simp, Tch.refl _ _ _ _⟩
      case round =>
        clear ho3
        obtain ⟨xs, new, rfl, rfl, hox, hFl, hfx, hT⟩ := hrel
        have HFX := Lib.hid hfx
        clear hfx
        cases new
        · have e := HST.out xs hFl (HFX.out rfl)
          have hxl := hFl.len
          have HFI := Lib.hid (show NewNats w (flowN k es p held) (.returned (.slice (some ⟨W.heap.size, 0, none⟩) k.ins.length k.ins.length)) wr from by
            rw [← e]
            exact ⟨some ⟨W.heap.size, 0, none⟩, k.ins.length, by rw [hxl], by rw [hxl]; exact own_mono hox (Nat.le_of_lt hwW), below_trans' hbW (HBT.out _ hT)⟩)
          clear e hxl
          go_wp2_with fail
          go_ret
          exact HFI.out
        · go_wp2_with fail
          clear HFX
          obtain ⟨wo, rfl⟩ : ∃ wo : World, wo = wr := ⟨_, rfl⟩
          go_loopg [13, 14] ls.length (fun l ag i wr => ∃ (j : Nat) (ys : List Nat) (nw : Bool), j ≤ ls.length ∧ l = ls.length - j ∧ i = .int .i64 j ∧ ag = .bool nw ∧ wr.ownsRow W.heap.size 3 1 (.slice (some ⟨W.heap.size, 0, none⟩) k.ins.length k.ins.length) k.ins.length (nv ys) ∧ Flowing k es p held ys ∧ FlR k es xs (pairsL k (ls.take j)) nw ys ∧ Tch W.heap.size W.heap.size W.heap.size w3 wr)
          case atStart => exact ⟨0, xs, false, by omega, by omega, rfl, rfl, hox, hFl, FlR.refl, hT⟩
          case round =>
            clear hox hFl hT
            obtain ⟨j, ys, nw, hj, rfl, rfl, rfl, hox, hFl, hP, hT⟩ := hrel
            have HP := Lib.hid hP
            have HFl := Lib.hid hFl
            clear hP hFl
            by_cases hlt : j < ls.length
            · have hbx0 := hbx.to (HBT.out _ hT)
              obtain ⟨adl, eal, _, hcl⟩ := (HOL.out _ hT).nat hlt
              obtain ⟨hal, hlv⟩ := HLP.out ls[j] (List.getElem_mem hlt)
              have HTK := Lib.hid (show pairsL k (ls.take (j + 1)) = pairsL k (ls.take j) ++ (nextL k ls[j]).map (fun n => (ls[j], n)) from by rw [List.take_succ_eq_append_getElem hlt, pairsL_snoc])
              have HCL := Lib.hid (fun wr (hT : Tch W.heap.size W.heap.size W.heap.size w3 wr) => (HOL.out _ hT).nat hlt)
              generalize ls[j] = a at *
              have HLA := Lib.hid hlv
              clear hlv
              subst eal
              obtain ⟨q1, q2, c0, c1, c2, c3, c4⟩ := id hbx0
              have z1 : (0 : Int) ≤ (j : Int) := by omega
              have z2 : (j : Int) < (ls.length : Int) := by omega
              have x1 : (0 : Int) ≤ (a : Int) := by omega
              have x2 : (a : Int) < (k.ins.length : Int) := by omega
              go_wp2_with fail
              go_still_tail 5, (by kernel_rfl)
              change wpList _ _ _ _ _ wr.drew
              go_wp2_with fail
              refine (HNX.out a hal _ hbx0.1.drew).mono ?_
              rintro e w6 ⟨An, cn, rfl, hon, hb6⟩
              have hT6 := hT.drew.trans (Tch.of_below hb6)
              have hX5 : W.heap.size < wr.drew.heap.size := (own_lt hox).2
              have hox6 := own_below (w := wr.drew) hox hb6
              have hnl := nextL_len k a
              have HNI := Lib.hid (show ∀ n ∈ nextL k a, n < k.ins.length ∧ n ∈ nextL k a from fun n hn => ⟨(nextL_in HR.out hal hn).1, hn⟩)
              have HON := Lib.hid (fun V (h : Tch W.heap.size W.heap.size W.heap.size w6 V) => own_rd (h.own hon hX5 hX5 hX5))
              have HT6 := Lib.hid hT6
              have HSPA := Lib.hid (fun zs n (h : Flowing k es p held zs) (hn : n ∈ nextL k a) => HSP.out zs a n (gt zs a) h HLA.out hn (h.le a) (Sub.refl _))
              have HPS := Lib.hid (fun dn nw2 zs n (h : FlR k es xs dn nw2 zs) (hn : n < zs.length) => h.step (a := a) (m := gt zs a) hn (fun hf => by rw [(h.no hf).1]))
              clear hT hon hb6 hox hT6 hbx0 q1 q2 c0 c1 c2 c3 c4 hcl
              generalize nextL k a = ns at *
              go_wp2_with fail
              obtain ⟨wo2, rfl⟩ : ∃ wo2 : World, wo2 = wr := ⟨_, rfl⟩
              go_loopg [13, 16] ns.length (fun l ag i wr => ∃ (m : Nat) (zs : List Nat) (nw2 : Bool), m ≤ ns.length ∧ l = ns.length - m ∧ i = .int .i64 m ∧ ag = .bool nw2 ∧ wr.ownsRow W.heap.size 3 1 (.slice (some ⟨W.heap.size, 0, none⟩) k.ins.length k.ins.length) k.ins.length (nv zs) ∧ Flowing k es p held zs ∧ FlR k es xs (pairsL k (ls.take j) ++ (ns.take m).map (fun n => (a, n))) nw2 zs ∧ Tch W.heap.size W.heap.size W.heap.size w6 wr)
              case atStart => exact ⟨0, ys, nw, by omega, by omega, rfl, rfl, hox6, HFl.out, by simpa using HP.out, Tch.refl _ _ _ _⟩
              case round =>
                clear hox6
                obtain ⟨m, zs, nw2, hm, rfl, rfl, rfl, hoz, hFz, hPz, hTz⟩ := hrel
                have HFZ := Lib.hid hFz
                have HPZ := Lib.hid hPz
                clear hFz hPz
                by_cases hltm : m < ns.length
                · obtain ⟨adn, ean, _, hcn⟩ := (HON.out _ hTz).nat hltm
                  obtain ⟨hnl2, hnm⟩ := HNI.out ns[m] (List.getElem_mem hltm)
                  have HTM := Lib.hid (show pairsL k (ls.take j) ++ (ns.take (m + 1)).map (fun n => (a, n)) = (pairsL k (ls.take j) ++ (ns.take m).map (fun n => (a, n))) ++ [(a, ns[m])] from by rw [List.take_succ_eq_append_getElem hltm, List.map_append, List.append_assoc]; rfl)
                  generalize ns[m] = n at *
                  have HNM := Lib.hid hnm
                  clear hnm
                  subst ean
                  have hT0 := HT6.out.trans hTz
                  obtain ⟨adl2, eal2, _, hcl⟩ := HCL.out _ hT0
                  injection eal2 with eal2
                  subst eal2
                  have hbx0 := hbx.to (HBT.out _ hT0)
                  obtain ⟨q1, q2, c0, c1, c2, c3, c4⟩ := id hbx0
                  have hb0 := hbx0.1
                  obtain ⟨ai, A', c', eA, hbi, k0, k1, k2, k3, k4, k5, k6, _⟩ := (HKC.out _ hb0).full.i.get hal
                  rw [eA] at c4
                  rw [opN_eq hal] at k0
                  rw [argN_eq HR.out hal] at k1
                  clear eA c0 c1 c2 c3 q1 q2
                  have cz := own_at hoz (j := n) hnl2 (nv_get (gt_some (xs := zs) (by rw [HFZ.out.len]; exact hnl2)))
                  have ca := own_at hoz (j := a) hal (nv_get (gt_some (xs := zs) (by rw [HFZ.out.len]; exact hal)))
                  have hzl := HFZ.out.le n
                  have hza := HFZ.out.le a
                  have hml := HML.out a hal (gt zs a) hza
                  have HMV := Lib.hid (fun a ha m hm t tt Ak ck V hb => HMV0.out a ha m hm t tt Ak ck V hb)
                  have HFN := Lib.hid (HSPA.out zs n HFZ.out HNM.out)
                  have HPN := Lib.hid (HPS.out _ nw2 zs n HPZ.out (by rw [HFZ.out.len]; exact hnl2))
                  have ea := i64_and_nat (gt zs n) (movedV (opN k a) (argN k a) es (gt zs a)) (by omega) (by omega)
                  have z1 : (0 : Int) ≤ (m : Int) := by omega
                  have z2 : (m : Int) < (ns.length : Int) := by omega
                  have x1 : (0 : Int) ≤ (n : Int) := by omega
                  have x2 : (n : Int) < (k.ins.length : Int) := by omega
                  have v1 : (0 : Int) ≤ (j : Int) := by omega
                  have v2 : (j : Int) < (ls.length : Int) := by omega
                  have v3 : (0 : Int) ≤ (a : Int) := by omega
                  have v4 : (a : Int) < (k.ins.length : Int) := by omega
                  have HZL := Lib.hid (show n < zs.length from by rw [HFZ.out.len]; exact hnl2)
                  go_wp2_with fail
                  refine wp_region_held_drew (S := fun w' => Below wr.heap.size wr w') (by kernel_rfl) ((Below.refl _ _).drew) (fun hHeld => ?_)
                  first | (refine hand_skip (i := 0) rfl (by kernel_rfl) (by kernel_rfl) (by kernel_rfl) (fun _ _ _ h => h) (by rfl) (by assumption) ?_) | (refine hand_run (i := 0) (v := ?_) rfl (by kernel_rfl) (by kernel_rfl) (by kernel_rfl) (fun _ _ _ h => h) (by rfl) ?_ (by assumption) ?_; rotate_left; (intro W hW; have f0 := cell_below hW hcn; have f1 := cell_below hW cz; have f2 := cell_below hW hcl; have f3 := cell_below hW ca; have f4 := cell_below hW c4; have l0 := cell_below hW k0; have l1 := cell_below hW k1; have l2 := cell_below hW k2; have l3 := cell_below hW k3; have l4 := cell_below hW k4; have l5 := cell_below hW k5; have l6 := cell_below hW k6; first | (go_simp; done) | (go_simp; with_reducible rfl)))
                  (try simp only [Act.put, List.setIfInBounds_toArray, List.set_cons_zero, List.set_cons_succ])
                  first | (refine hand_skip (i := 1) rfl (by kernel_rfl) (by kernel_rfl) (by kernel_rfl) (fun _ _ _ h => h) (by rfl) (by assumption) ?_) | (refine hand_run (i := 1) (v := ?_) rfl (by kernel_rfl) (by kernel_rfl) (by kernel_rfl) (fun _ _ _ h => h) (by rfl) ?_ (by assumption) ?_; rotate_left; (intro W hW; have f0 := cell_below hW hcn; have f1 := cell_below hW cz; have f2 := cell_below hW hcl; have f3 := cell_below hW ca; have f4 := cell_below hW c4; have l0 := cell_below hW k0; have l1 := cell_below hW k1; have l2 := cell_below hW k2; have l3 := cell_below hW k3; have l4 := cell_below hW k4; have l5 := cell_below hW k5; have l6 := cell_below hW k6; first | (go_simp; done) | (go_simp; with_reducible rfl)))
                  (try simp only [Act.put, List.setIfInBounds_toArray, List.set_cons_zero, List.set_cons_succ])
                  first | (refine hand_skip (i := 2) rfl (by kernel_rfl) (by kernel_rfl) (by kernel_rfl) (fun _ _ _ h => h) (by rfl) (by assumption) ?_) | (refine hand_run (i := 2) (v := ?_) rfl (by kernel_rfl) (by kernel_rfl) (by kernel_rfl) (fun _ _ _ h => h) (by rfl) ?_ (by assumption) ?_; rotate_left; (intro W hW; have f0 := cell_below hW hcn; have f1 := cell_below hW cz; have f2 := cell_below hW hcl; have f3 := cell_below hW ca; have f4 := cell_below hW c4; have l0 := cell_below hW k0; have l1 := cell_below hW k1; have l2 := cell_below hW k2; have l3 := cell_below hW k3; have l4 := cell_below hW k4; have l5 := cell_below hW k5; have l6 := cell_below hW k6; first | (go_simp; done) | (go_simp; with_reducible rfl)))
                  (try simp only [Act.put, List.setIfInBounds_toArray, List.set_cons_zero, List.set_cons_succ])
                  first | (refine hand_skip (i := 3) rfl (by kernel_rfl) (by kernel_rfl) (by kernel_rfl) (fun _ _ _ h => h) (by rfl) (by assumption) ?_) | (refine hand_run (i := 3) (v := ?_) rfl (by kernel_rfl) (by kernel_rfl) (by kernel_rfl) (fun _ _ _ h => h) (by rfl) ?_ (by assumption) ?_; rotate_left; (intro W hW; have f0 := cell_below hW hcn; have f1 := cell_below hW cz; have f2 := cell_below hW hcl; have f3 := cell_below hW ca; have f4 := cell_below hW c4; have l0 := cell_below hW k0; have l1 := cell_below hW k1; have l2 := cell_below hW k2; have l3 := cell_below hW k3; have l4 := cell_below hW k4; have l5 := cell_below hW k5; have l6 := cell_below hW k6; first | (go_simp; done) | (go_simp; with_reducible rfl)))
                  (try simp only [Act.put, List.setIfInBounds_toArray, List.set_cons_zero, List.set_cons_succ])
                  first | (refine hand_skip (i := 4) rfl (by kernel_rfl) (by kernel_rfl) (by kernel_rfl) (fun _ _ _ h => h) (by rfl) (by assumption) ?_) | (refine hand_run (i := 4) (v := ?_) rfl (by kernel_rfl) (by kernel_rfl) (by kernel_rfl) (fun _ _ _ h => h) (by rfl) ?_ (by assumption) ?_; rotate_left; (intro W hW; have f0 := cell_below hW hcn; have f1 := cell_below hW cz; have f2 := cell_below hW hcl; have f3 := cell_below hW ca; have f4 := cell_below hW c4; have l0 := cell_below hW k0; have l1 := cell_below hW k1; have l2 := cell_below hW k2; have l3 := cell_below hW k3; have l4 := cell_below hW k4; have l5 := cell_below hW k5; have l6 := cell_below hW k6; first | (go_simp; done) | (go_simp; with_reducible rfl)))
                  (try simp only [Act.put, List.setIfInBounds_toArray, List.set_cons_zero, List.set_cons_succ])
                  first | (refine hand_skip (i := 5) rfl (by kernel_rfl) (by kernel_rfl) (by kernel_rfl) (fun _ _ _ h => h) (by rfl) (by assumption) ?_) | (refine hand_run (i := 5) (v := ?_) rfl (by kernel_rfl) (by kernel_rfl) (by kernel_rfl) (fun _ _ _ h => h) (by rfl) ?_ (by assumption) ?_; rotate_left; (intro W hW; have f0 := cell_below hW hcn; have f1 := cell_below hW cz; have f2 := cell_below hW hcl; have f3 := cell_below hW ca; have f4 := cell_below hW c4; have l0 := cell_below hW k0; have l1 := cell_below hW k1; have l2 := cell_below hW k2; have l3 := cell_below hW k3; have l4 := cell_below hW k4; have l5 := cell_below hW k5; have l6 := cell_below hW k6; first | (go_simp; done) | (go_simp; with_reducible rfl)))
                  (try simp only [Act.put, List.setIfInBounds_toArray, List.set_cons_zero, List.set_cons_succ])
                  first | (refine hand_skip (i := 6) rfl (by kernel_rfl) (by kernel_rfl) (by kernel_rfl) (fun _ _ _ h => h) (by rfl) (by assumption) ?_) | (refine hand_run (i := 6) (v := ?_) rfl (by kernel_rfl) (by kernel_rfl) (by kernel_rfl) (fun _ _ _ h => h) (by rfl) ?_ (by assumption) ?_; rotate_left; (intro W hW; have f0 := cell_below hW hcn; have f1 := cell_below hW cz; have f2 := cell_below hW hcl; have f3 := cell_below hW ca; have f4 := cell_below hW c4; have l0 := cell_below hW k0; have l1 := cell_below hW k1; have l2 := cell_below hW k2; have l3 := cell_below hW k3; have l4 := cell_below hW k4; have l5 := cell_below hW k5; have l6 := cell_below hW k6; first | (go_simp; done) | (go_simp; with_reducible rfl)))
                  (try simp only [Act.put, List.setIfInBounds_toArray, List.set_cons_zero, List.set_cons_succ])
                  first | (refine hand_skip (i := 7) rfl (by kernel_rfl) (by kernel_rfl) (by kernel_rfl) (fun _ _ _ h => h) (by rfl) (by assumption) ?_) | (refine hand_run (i := 7) (v := ?_) rfl (by kernel_rfl) (by kernel_rfl) (by kernel_rfl) (fun _ _ _ h => h) (by rfl) ?_ (by assumption) ?_; rotate_left; (intro W hW; have f0 := cell_below hW hcn; have f1 := cell_below hW cz; have f2 := cell_below hW hcl; have f3 := cell_below hW ca; have f4 := cell_below hW c4; have l0 := cell_below hW k0; have l1 := cell_below hW k1; have l2 := cell_below hW k2; have l3 := cell_below hW k3; have l4 := cell_below hW k4; have l5 := cell_below hW k5; have l6 := cell_below hW k6; first | (go_simp; done) | (go_simp; with_reducible rfl)))
                  (try simp only [Act.put, List.setIfInBounds_toArray, List.set_cons_zero, List.set_cons_succ])
                  first | (refine hand_skip (i := 8) rfl (by kernel_rfl) (by kernel_rfl) (by kernel_rfl) (fun _ _ _ h => h) (by rfl) (by assumption) ?_) | (refine hand_run (i := 8) (v := ?_) rfl (by kernel_rfl) (by kernel_rfl) (by kernel_rfl) (fun _ _ _ h => h) (by rfl) ?_ (by assumption) ?_; rotate_left; (intro W hW; have f0 := cell_below hW hcn; have f1 := cell_below hW cz; have f2 := cell_below hW hcl; have f3 := cell_below hW ca; have f4 := cell_below hW c4; have l0 := cell_below hW k0; have l1 := cell_below hW k1; have l2 := cell_below hW k2; have l3 := cell_below hW k3; have l4 := cell_below hW k4; have l5 := cell_below hW k5; have l6 := cell_below hW k6; first | (go_simp; done) | (go_simp; with_reducible rfl)))
                  (try simp only [Act.put, List.setIfInBounds_toArray, List.set_cons_zero, List.set_cons_succ])
                  first | (refine hand_skip (i := 9) rfl (by kernel_rfl) (by kernel_rfl) (by kernel_rfl) (fun _ _ _ h => h) (by rfl) (by assumption) ?_) | (refine hand_run (i := 9) (v := ?_) rfl (by kernel_rfl) (by kernel_rfl) (by kernel_rfl) (fun _ _ _ h => h) (by rfl) ?_ (by assumption) ?_; rotate_left; (intro W hW; have f0 := cell_below hW hcn; have f1 := cell_below hW cz; have f2 := cell_below hW hcl; have f3 := cell_below hW ca; have f4 := cell_below hW c4; have l0 := cell_below hW k0; have l1 := cell_below hW k1; have l2 := cell_below hW k2; have l3 := cell_below hW k3; have l4 := cell_below hW k4; have l5 := cell_below hW k5; have l6 := cell_below hW k6; first | (go_simp; done) | (go_simp; with_reducible rfl)))
                  (try simp only [Act.put, List.setIfInBounds_toArray, List.set_cons_zero, List.set_cons_succ])
                  first | (refine hand_skip (i := 10) rfl (by kernel_rfl) (by kernel_rfl) (by kernel_rfl) (fun _ _ _ h => h) (by rfl) (by assumption) ?_) | (refine hand_run (i := 10) (v := ?_) rfl (by kernel_rfl) (by kernel_rfl) (by kernel_rfl) (fun _ _ _ h => h) (by rfl) ?_ (by assumption) ?_; rotate_left; (intro W hW; have f0 := cell_below hW hcn; have f1 := cell_below hW cz; have f2 := cell_below hW hcl; have f3 := cell_below hW ca; have f4 := cell_below hW c4; have l0 := cell_below hW k0; have l1 := cell_below hW k1; have l2 := cell_below hW k2; have l3 := cell_below hW k3; have l4 := cell_below hW k4; have l5 := cell_below hW k5; have l6 := cell_below hW k6; first | (go_simp; done) | (go_simp; with_reducible rfl)))
                  (try simp only [Act.put, List.setIfInBounds_toArray, List.set_cons_zero, List.set_cons_succ])
                  first | (refine hand_skip (i := 11) rfl (by kernel_rfl) (by kernel_rfl) (by kernel_rfl) (fun _ _ _ h => h) (by rfl) (by assumption) ?_) | (refine hand_run (i := 11) (v := ?_) rfl (by kernel_rfl) (by kernel_rfl) (by kernel_rfl) (fun _ _ _ h => h) (by rfl) ?_ (by assumption) ?_; rotate_left; (intro W hW; have f0 := cell_below hW hcn; have f1 := cell_below hW cz; have f2 := cell_below hW hcl; have f3 := cell_below hW ca; have f4 := cell_below hW c4; have l0 := cell_below hW k0; have l1 := cell_below hW k1; have l2 := cell_below hW k2; have l3 := cell_below hW k3; have l4 := cell_below hW k4; have l5 := cell_below hW k5; have l6 := cell_below hW k6; first | (go_simp; done) | (go_simp; with_reducible rfl)))
                  (try simp only [Act.put, List.setIfInBounds_toArray, List.set_cons_zero, List.set_cons_succ])
                  first | (refine hand_skip (i := 12) rfl (by kernel_rfl) (by kernel_rfl) (by kernel_rfl) (fun _ _ _ h => h) (by rfl) (by assumption) ?_) | (refine hand_run (i := 12) (v := ?_) rfl (by kernel_rfl) (by kernel_rfl) (by kernel_rfl) (fun _ _ _ h => h) (by rfl) ?_ (by assumption) ?_; rotate_left; (intro W hW; have f0 := cell_below hW hcn; have f1 := cell_below hW cz; have f2 := cell_below hW hcl; have f3 := cell_below hW ca; have f4 := cell_below hW c4; have l0 := cell_below hW k0; have l1 := cell_below hW k1; have l2 := cell_below hW k2; have l3 := cell_below hW k3; have l4 := cell_below hW k4; have l5 := cell_below hW k5; have l6 := cell_below hW k6; first | (go_simp; done) | (go_simp; with_reducible rfl)))
                  (try simp only [Act.put, List.setIfInBounds_toArray, List.set_cons_zero, List.set_cons_succ])
                  first | (refine hand_skip (i := 13) rfl (by kernel_rfl) (by kernel_rfl) (by kernel_rfl) (fun _ _ _ h => h) (by rfl) (by assumption) ?_) | (refine hand_run (i := 13) (v := ?_) rfl (by kernel_rfl) (by kernel_rfl) (by kernel_rfl) (fun _ _ _ h => h) (by rfl) ?_ (by assumption) ?_; rotate_left; (intro W hW; have f0 := cell_below hW hcn; have f1 := cell_below hW cz; have f2 := cell_below hW hcl; have f3 := cell_below hW ca; have f4 := cell_below hW c4; have l0 := cell_below hW k0; have l1 := cell_below hW k1; have l2 := cell_below hW k2; have l3 := cell_below hW k3; have l4 := cell_below hW k4; have l5 := cell_below hW k5; have l6 := cell_below hW k6; first | (go_simp; done) | (go_simp; with_reducible rfl)))
                  (try simp only [Act.put, List.setIfInBounds_toArray, List.set_cons_zero, List.set_cons_succ])
                  first | (refine hand_skip (i := 14) rfl (by kernel_rfl) (by kernel_rfl) (by kernel_rfl) (fun _ _ _ h => h) (by rfl) (by assumption) ?_) | (refine hand_run (i := 14) (v := ?_) rfl (by kernel_rfl) (by kernel_rfl) (by kernel_rfl) (fun _ _ _ h => h) (by rfl) ?_ (by assumption) ?_; rotate_left; (intro W hW; have f0 := cell_below hW hcn; have f1 := cell_below hW cz; have f2 := cell_below hW hcl; have f3 := cell_below hW ca; have f4 := cell_below hW c4; have l0 := cell_below hW k0; have l1 := cell_below hW k1; have l2 := cell_below hW k2; have l3 := cell_below hW k3; have l4 := cell_below hW k4; have l5 := cell_below hW k5; have l6 := cell_below hW k6; first | (go_simp; done) | (go_simp; with_reducible rfl)))
                  (try simp only [Act.put, List.setIfInBounds_toArray, List.set_cons_zero, List.set_cons_succ])
                  first | (refine hand_skip (i := 15) rfl (by kernel_rfl) (by kernel_rfl) (by kernel_rfl) (fun _ _ _ h => h) (by rfl) (by assumption) ?_) | (refine hand_run (i := 15) (v := ?_) rfl (by kernel_rfl) (by kernel_rfl) (by kernel_rfl) (fun _ _ _ h => h) (by rfl) ?_ (by assumption) ?_; rotate_left; (intro W hW; have f0 := cell_below hW hcn; have f1 := cell_below hW cz; have f2 := cell_below hW hcl; have f3 := cell_below hW ca; have f4 := cell_below hW c4; have l0 := cell_below hW k0; have l1 := cell_below hW k1; have l2 := cell_below hW k2; have l3 := cell_below hW k3; have l4 := cell_below hW k4; have l5 := cell_below hW k5; have l6 := cell_below hW k6; first | (go_simp; done) | (go_simp; with_reducible rfl)))
                  (try simp only [Act.put, List.setIfInBounds_toArray, List.set_cons_zero, List.set_cons_succ])
                  first | (refine hand_skip (i := 16) rfl (by kernel_rfl) (by kernel_rfl) (by kernel_rfl) (fun _ _ _ h => h) (by rfl) (by assumption) ?_) | (refine hand_run (i := 16) (v := ?_) rfl (by kernel_rfl) (by kernel_rfl) (by kernel_rfl) (fun _ _ _ h => h) (by rfl) ?_ (by assumption) ?_; rotate_left; (intro W hW; have f0 := cell_below hW hcn; have f1 := cell_below hW cz; have f2 := cell_below hW hcl; have f3 := cell_below hW ca; have f4 := cell_below hW c4; have l0 := cell_below hW k0; have l1 := cell_below hW k1; have l2 := cell_below hW k2; have l3 := cell_below hW k3; have l4 := cell_below hW k4; have l5 := cell_below hW k5; have l6 := cell_below hW k6; first | (go_simp; done) | (go_simp; with_reducible rfl)))
                  (try simp only [Act.put, List.setIfInBounds_toArray, List.set_cons_zero, List.set_cons_succ])
                  first | (refine hand_skip (i := 17) rfl (by kernel_rfl) (by kernel_rfl) (by kernel_rfl) (fun _ _ _ h => h) (by rfl) (by assumption) ?_) | (refine hand_run (i := 17) (v := ?_) rfl (by kernel_rfl) (by kernel_rfl) (by kernel_rfl) (fun _ _ _ h => h) (by rfl) ?_ (by assumption) ?_; rotate_left; (intro W hW; have f0 := cell_below hW hcn; have f1 := cell_below hW cz; have f2 := cell_below hW hcl; have f3 := cell_below hW ca; have f4 := cell_below hW c4; have l0 := cell_below hW k0; have l1 := cell_below hW k1; have l2 := cell_below hW k2; have l3 := cell_below hW k3; have l4 := cell_below hW k4; have l5 := cell_below hW k5; have l6 := cell_below hW k6; first | (go_simp; done) | (go_simp; with_reducible rfl)))
                  (try simp only [Act.put, List.setIfInBounds_toArray, List.set_cons_zero, List.set_cons_succ])
                  first | (refine hand_skip (i := 18) rfl (by kernel_rfl) (by kernel_rfl) (by kernel_rfl) (fun _ _ _ h => h) (by rfl) (by assumption) ?_) | (refine hand_run (i := 18) (v := ?_) rfl (by kernel_rfl) (by kernel_rfl) (by kernel_rfl) (fun _ _ _ h => h) (by rfl) ?_ (by assumption) ?_; rotate_left; (intro W hW; have f0 := cell_below hW hcn; have f1 := cell_below hW cz; have f2 := cell_below hW hcl; have f3 := cell_below hW ca; have f4 := cell_below hW c4; have l0 := cell_below hW k0; have l1 := cell_below hW k1; have l2 := cell_below hW k2; have l3 := cell_below hW k3; have l4 := cell_below hW k4; have l5 := cell_below hW k5; have l6 := cell_below hW k6; first | (go_simp; done) | (go_simp; with_reducible rfl)))
                  (try simp only [Act.put, List.setIfInBounds_toArray, List.set_cons_zero, List.set_cons_succ])
                  first | (refine hand_skip (i := 19) rfl (by kernel_rfl) (by kernel_rfl) (by kernel_rfl) (fun _ _ _ h => h) (by rfl) (by assumption) ?_) | (refine hand_run (i := 19) (v := ?_) rfl (by kernel_rfl) (by kernel_rfl) (by kernel_rfl) (fun _ _ _ h => h) (by rfl) ?_ (by assumption) ?_; rotate_left; (intro W hW; have f0 := cell_below hW hcn; have f1 := cell_below hW cz; have f2 := cell_below hW hcl; have f3 := cell_below hW ca; have f4 := cell_below hW c4; have l0 := cell_below hW k0; have l1 := cell_below hW k1; have l2 := cell_below hW k2; have l3 := cell_below hW k3; have l4 := cell_below hW k4; have l5 := cell_below hW k5; have l6 := cell_below hW k6; first | (go_simp; done) | (go_simp; with_reducible rfl)))
                  (try simp only [Act.put, List.setIfInBounds_toArray, List.set_cons_zero, List.set_cons_succ])
                  first | (refine hand_skip (i := 20) rfl (by kernel_rfl) (by kernel_rfl) (by kernel_rfl) (fun _ _ _ h => h) (by rfl) (by assumption) ?_) | (refine hand_run (i := 20) (v := ?_) rfl (by kernel_rfl) (by kernel_rfl) (by kernel_rfl) (fun _ _ _ h => h) (by rfl) ?_ (by assumption) ?_; rotate_left; (intro W hW; have f0 := cell_below hW hcn; have f1 := cell_below hW cz; have f2 := cell_below hW hcl; have f3 := cell_below hW ca; have f4 := cell_below hW c4; have l0 := cell_below hW k0; have l1 := cell_below hW k1; have l2 := cell_below hW k2; have l3 := cell_below hW k3; have l4 := cell_below hW k4; have l5 := cell_below hW k5; have l6 := cell_below hW k6; first | (go_simp; done) | (go_simp; with_reducible rfl)))
                  (try simp only [Act.put, List.setIfInBounds_toArray, List.set_cons_zero, List.set_cons_succ])
                  first | (refine hand_skip (i := 21) rfl (by kernel_rfl) (by kernel_rfl) (by kernel_rfl) (fun _ _ _ h => h) (by rfl) (by assumption) ?_) | (refine hand_run (i := 21) (v := ?_) rfl (by kernel_rfl) (by kernel_rfl) (by kernel_rfl) (fun _ _ _ h => h) (by rfl) ?_ (by assumption) ?_; rotate_left; (intro W hW; have f0 := cell_below hW hcn; have f1 := cell_below hW cz; have f2 := cell_below hW hcl; have f3 := cell_below hW ca; have f4 := cell_below hW c4; have l0 := cell_below hW k0; have l1 := cell_below hW k1; have l2 := cell_below hW k2; have l3 := cell_below hW k3; have l4 := cell_below hW k4; have l5 := cell_below hW k5; have l6 := cell_below hW k6; first | (go_simp; done) | (go_simp; with_reducible rfl)))
                  (try simp only [Act.put, List.setIfInBounds_toArray, List.set_cons_zero, List.set_cons_succ])
                  first | (refine hand_skip (i := 22) rfl (by kernel_rfl) (by kernel_rfl) (by kernel_rfl) (fun _ _ _ h => h) (by rfl) (by assumption) ?_) | (refine hand_run (i := 22) (v := ?_) rfl (by kernel_rfl) (by kernel_rfl) (by kernel_rfl) (fun _ _ _ h => h) (by rfl) ?_ (by assumption) ?_; rotate_left; (intro W hW; have f0 := cell_below hW hcn; have f1 := cell_below hW cz; have f2 := cell_below hW hcl; have f3 := cell_below hW ca; have f4 := cell_below hW c4; have l0 := cell_below hW k0; have l1 := cell_below hW k1; have l2 := cell_below hW k2; have l3 := cell_below hW k3; have l4 := cell_below hW k4; have l5 := cell_below hW k5; have l6 := cell_below hW k6; first | (go_simp; done) | (go_simp; with_reducible rfl)))
                  (try simp only [Act.put, List.setIfInBounds_toArray, List.set_cons_zero, List.set_cons_succ])
                  refine hand_one (i := 23) rfl (by kernel_rfl) (fun K hK => ?_)
                  refine q_yes (by rfl) ?_
                  go_simp
                  refine (HMV.out a hal (gt zs a) hza k.ins[a].term k.ins[a].to A' c' _ (below_trans' hb0 hHeld)).mono ?_
                  rintro e w7 ⟨rfl, hb7⟩
                  refine hK.out _ _ (below_trans' hHeld hb7) (fun hHeld => ?_)
                  clear hK K
                  (try simp only [Act.put, List.setIfInBounds_toArray, List.set_cons_zero, List.set_cons_succ])
                  first | (refine hand_skip (i := 24) rfl (by kernel_rfl) (by kernel_rfl) (by kernel_rfl) (fun _ _ _ h => h) (by rfl) (by assumption) ?_) | (refine hand_run (i := 24) (v := ?_) rfl (by kernel_rfl) (by kernel_rfl) (by kernel_rfl) (fun _ _ _ h => h) (by rfl) ?_ (by assumption) ?_; rotate_left; (intro W hW; have f0 := cell_below hW hcn; have f1 := cell_below hW cz; have f2 := cell_below hW hcl; have f3 := cell_below hW ca; have f4 := cell_below hW c4; have l0 := cell_below hW k0; have l1 := cell_below hW k1; have l2 := cell_below hW k2; have l3 := cell_below hW k3; have l4 := cell_below hW k4; have l5 := cell_below hW k5; have l6 := cell_below hW k6; first | (go_simp; done) | (go_simp; with_reducible rfl)))
                  (try simp only [Act.put, List.setIfInBounds_toArray, List.set_cons_zero, List.set_cons_succ])
                  first | (refine hand_skip (i := 25) rfl (by kernel_rfl) (by kernel_rfl) (by kernel_rfl) (fun _ _ _ h => h) (by rfl) (by assumption) ?_) | (refine hand_run (i := 25) (v := ?_) rfl (by kernel_rfl) (by kernel_rfl) (by kernel_rfl) (fun _ _ _ h => h) (by rfl) ?_ (by assumption) ?_; rotate_left; (intro W hW; have f0 := cell_below hW hcn; have f1 := cell_below hW cz; have f2 := cell_below hW hcl; have f3 := cell_below hW ca; have f4 := cell_below hW c4; have l0 := cell_below hW k0; have l1 := cell_below hW k1; have l2 := cell_below hW k2; have l3 := cell_below hW k3; have l4 := cell_below hW k4; have l5 := cell_below hW k5; have l6 := cell_below hW k6; first | (go_simp; done) | (go_simp; with_reducible rfl)))
                  (try simp only [Act.put, List.setIfInBounds_toArray, List.set_cons_zero, List.set_cons_succ])
                  refine wpAnyH_done (by kernel_rfl) ?_ _
                  have hc6 := cell_below hHeld hcn
                  have hz6 := cell_below hHeld cz
                  have hoz6 := own_below hoz hHeld
                  have hTz6 := hTz.trans (Tch.of_below hHeld)
                  clear hcn cz hcl ca c4 k0 k1 k2 k3 k4 k5 k6 hoz hTz hHeld hbx0 hT0 hb0
                  generalize movedV (opN k a) (argN k a) es (gt zs a) = h at *
                  have fz := hoz6.frozenAt n
                  by_cases he : gt zs n &&& h = gt zs n
                  · have hne : (((gt zs n &&& h : Nat) : Int) != ((gt zs n : Nat) : Int)) = false := by rw [he]; simp
                    have HPB := Lib.hid (show (gt zs n &&& h != gt zs n) = false from by rw [he]; simp)
                    have HFE := Lib.hid (fstep_same HZL.out he)
                    clear he
                    go_wp2_with fail
                    go_roundg (ns.length - (m + 1))
                    case measure => omega
                    case rel =>
                      have hp2 := HPN.out
                      rw [HPB.out, HFE.out, Bool.or_false] at hp2
                      exact ⟨m + 1, zs, nw2, by omega, rfl, by go_num, rfl, hoz6, HFZ.out, by rw [HTM.out]; exact hp2, hTz6⟩
                  · have hne : (((gt zs n &&& h : Nat) : Int) != ((gt zs n : Nat) : Int)) = true := by
                      simp only [bne_iff_ne, ne_eq]
                      omega
                    have HPB := Lib.hid (show (gt zs n &&& h != gt zs n) = true from by simpa using he)
                    clear he
                    go_wp2_with fail
                    obtain ⟨s1, s2⟩ := hoz6.stored n (.int .i64 ((gt zs n &&& h : Nat) : Int))
                    rw [nv_set] at s1
                    go_roundg (ns.length - (m + 1))
                    case measure => omega
                    case rel =>
                      have hp2 := HPN.out
                      rw [HPB.out, Bool.or_true] at hp2
                      exact ⟨m + 1, fstep h zs n, true, by omega, rfl, by go_num, rfl, s1, HFN.out, by rw [HTM.out]; exact hp2, hTz6.set (.inl rfl) _⟩
                · obtain rfl : m = ns.length := by omega
                  have hp2 := HPZ.out
                  rw [List.take_length, ← HTK.out] at hp2
                  have HP2 := Lib.hid hp2
                  clear hp2
                  go_wp2_with fail
                  go_roundg (ls.length - (j + 1))
                  case measure => omega
                  case rel => exact ⟨j + 1, zs, nw2, by omega, rfl, by go_num, rfl, hoz, HFZ.out, HP2.out, HT6.out.trans hTz⟩
            · obtain rfl : j = ls.length := by omega
              have hp2 := HP.out
              rw [List.take_length] at hp2
              have HP2 := Lib.hid hp2
              clear hp2
              go_wp2_with fail
              go_roundg (2 * ys.sum + (if nw then 1 else 0))
              case measure =>
                cases nw
                · rw [(HP2.out.no rfl).1]; simp
                · have := HP2.out.yes rfl; simp; omega
              case rel => exact ⟨ys, nw, rfl, rfl, hox, HFl.out, fun hf => by rw [(HP2.out.no hf).1]; exact (HP2.out.no hf).2, hT⟩
end Go.Proofs.YtkgoajnnkimkaaaGreat
