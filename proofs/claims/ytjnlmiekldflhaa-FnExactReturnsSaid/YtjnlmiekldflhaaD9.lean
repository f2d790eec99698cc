/- Contract of l10Comes. -/
import Derived.Test.YtjnlmiekldflhaaD8
set_option linter.unusedSimpArgs false
set_option linter.unusedVariables false
namespace Go.Proofs.Ytjnlmiekldflhaa
open Go.ChangeShapes Go.WideShapes Go.ChangeAt Go.RowKit

set_option maxRecDepth 100000 in
set_option maxHeartbeats 2000000 in
theorem l10Comes_any {B L B' : Nat} (v : CV) (k : Cd) (p : Nat) (R : Nat → Prop) (Ak : Option Addr) (ck : Nat) (w : World) (hr : Right k) (hk : CodeAt w B v k) (hcb : CdB L k) (hL : L ≤ 1048576) (hp : p < k.procs.length) (hrk : Rd w B' Ak ((markL k.procs.length R).map bv)) :
    Calls Try.prog 115 #[.agg #[.slice v.gA k.globals.length v.gc, .slice v.lA k.locks.length v.lc, .slice v.pA k.procs.length v.pc, .slice v.eA k.entry.length v.ec, .slice v.iA k.ins.length v.ic], .int .i64 p, .slice Ak k.procs.length ck] w fun e w' => (∃ r : Bool, e = .returned (.bool r) ∧ (r = true ↔ EndP k R p)) ∧ Below w.heap.size w w' := by
  have hkf := hk.full
  have hrk := hrk.full
  have hbx := codeBox w v k
  have hins := hr.ins
  have hpl := hr.procs
  have hent := ent_lt hr hp
  obtain ⟨ade, ee, hbe, hce⟩ := entry_cell hr hkf hp
  have hel : p < k.entry.length := by have := hr.entry; omega
  have HEE := Lib.hid ee
  have HR := Lib.hid (fun x n (hx : x < k.ins.length) (hn : n ∈ nxR k R x) => nxR_in hr hx hn)
  have HNX := Lib.hid (fun x (hx : x < k.ins.length) W (h : CodeAt W w.heap.size v k) => l09Next_any v k x W hr h hx)
  have HEN := Lib.hid (fun W (h : CodeAt W w.heap.size v k) => l08End_right v k p W hr h hcb hL hp)
  have HRR := Lib.hid hr
  have hfin := fin_op hr hp
  have y1 : (0 : Int) ≤ (p : Int) := by omega
  have y2 : (p : Int) < (k.entry.length : Int) := by omega
  have x1 : (0 : Int) ≤ (ent k p : Int) := by omega
  have x2 : (ent k p : Int) < (k.ins.length : Int) := by omega
  clear hk hr ee hcb
  go_enter Try.func115, Try.ntmps115
  go_wp2_with (at_make; generalize w.alloc (.cells #[.slice v.gA k.globals.length v.gc, .slice v.lA k.locks.length v.lc, .slice v.pA k.procs.length v.pc, .slice v.eA k.entry.length v.ec, .slice v.iA k.ins.length v.ic] 33) = W at hbx ⊢; refine make_bools _ rfl _ _ rfl k.ins.length rfl rfl (by omega) ?_; intro w1 hown hb1; have fz := hown.frozenAt (ent k p); obtain ⟨u, hu⟩ := own_has hown (j := ent k p) (by omega); have hbx1 := hbx.to hb1; have hce1 := hbx1.1.cell (p := ade.add p) (by rw [block_of_add]; exact hbe); rw [hce] at hce1; obtain ⟨b1, b2, c0, c1, c2, c3, c4⟩ := id hbx1; rw [HEE.out] at c3; have hlt0 := hbx.2.1; have hbl1 : (ade.add p).block ≠ W.heap.size := (by rw [block_of_add]; omega); have hg1 : w.heap.size ≠ W.heap.size := (by omega); have hs0 := own_stored hown (ent k p); have hce2 := (hs0.2).cell hce1 (by simpa using hbl1); have c32 := (hs0.2).cell c3 (by simpa using hg1))
  have hgm1 := (own_lt hown).2
  have hS : Spr w1 W.heap.size W.heap.size k.ins.length k.ins.length (nxR k R) (ent k p) ((List.replicate k.ins.length false).set (ent k p) true) (2 * k.ins.length + 1) (.slice (some ⟨w1.heap.size, 0, none⟩) 1 1) [ent k p] ([ent k p]) ((List.replicate k.ins.length false).set (ent k p) true) ((w1.setCell ⟨W.heap.size, ent k p, none⟩ (.bool true)).alloc (.cells #[.int .i64 (ent k p)] 3)) := by
    have hun := unm_le ((List.replicate k.ins.length false).set (ent k p) true)
    simp only [List.length_set, List.length_replicate] at hun
    refine ⟨?_, .start (by simpa using hent), hs0.1.alloc _, hs0.2.trans (World.grownBy_alloc _ _ _), (own_lt hown).2, by simp; omega, by simp; omega⟩
    have := World.ownsRow_lit (base := w1.heap.size) (e := 3) (size := 1) (w1.setCell ⟨W.heap.size, ent k p, none⟩ (.bool true)) #[.int .i64 (ent k p)] 1 (by simp) (by unfold maxLen; omega) (by simp)
    simpa [nv, natI, iv] using this
  clear hown fz hu hce1 hs0 hce2 c32 c0 c1 c2 c3 c4 hb1 hbl1 hg1 b1 b2 hbx
  go_loopg [8, 9] (2 * k.ins.length + 1) (fun m td i wr => ∃ (h : Nat) (xs : List Nat) (ms : List Bool), i = .int .i64 h ∧ h ≤ xs.length ∧ Spr w1 W.heap.size W.heap.size k.ins.length k.ins.length (nxR k R) (ent k p) ((List.replicate k.ins.length false).set (ent k p) true) m td xs (xs.drop h) ms wr)
  case atStart => exact ⟨0, [ent k p], _, rfl, by simp, hS⟩
  case round =>
    clear hS
    obtain ⟨h, xs, ms, rfl, hh, hS⟩ := hrel
    obtain ⟨A, ct, rfl⟩ := own_form hS.todo
    have hcn := hS.cnt
    have hbxr := hbx1.grown hS.grown hlt0
    obtain ⟨hbw, hsz, c0, c1, c2, c3, c4⟩ := id hbxr
    by_cases hlt : h < xs.length
    · have hdr : xs.drop h = xs[h] :: xs.drop (h + 1) := List.drop_eq_getElem_cons hlt
      rw [hdr] at hS
      have hxl : xs[h] < k.ins.length := by have := (hS.srch.td xs[h] (List.mem_cons_self ..)).1; rw [hS.len] at this; exact this
      clear hdr
      obtain ⟨ad, rfl, hbl, hcx⟩ := (own_rd hS.todo).nat hlt
      generalize xs[h] = x at *
      have z1 : (0 : Int) ≤ (h : Int) := by omega
      have z2 : (h : Int) < (xs.length : Int) := by omega
      have z3 : (0 : Int) ≤ (x : Int) := by omega
      have z4 : (x : Int) < (k.ins.length : Int) := by omega
      obtain ⟨ai, A', c', eA, hbi, k0, k1, k2, k3, k4, k5, k6, _⟩ := (hkf.below hbw).full.i.get hxl
      have HEA := Lib.hid eA
      rw [eA] at c4
      rw [opN_eq hxl] at k0
      rw [argN_eq HRR.out hxl] at k1
      clear eA
      go_wp2_with fail
      go_region_held3 (fun w' => w'.cell? ⟨w.heap.size, 4, none⟩ = some (.slice (some ai) k.ins.length v.ic) ∧ w'.cell? (ad.add h) = some (.int .i64 x) ∧ w'.cell? (ai.add (x * 7)) = some (.int .i64 (opN k x)) ∧
          w'.cell? ⟨(ai.add (x * 7)).block, (ai.add (x * 7)).off + 1, none⟩ = some (.int .i64 (argN k x)) ∧ w'.cell? ⟨(ai.add (x * 7)).block, (ai.add (x * 7)).off + 2, none⟩ = some (.int .i64 k.ins[x].term.kind) ∧
          w'.cell? ⟨(ai.add (x * 7)).block, (ai.add (x * 7)).off + 3, none⟩ = some (.int .i64 k.ins[x].term.num) ∧ w'.cell? ⟨(ai.add (x * 7)).block, (ai.add (x * 7)).off + 4, none⟩ = some (.string k.ins[x].term.name) ∧
          w'.cell? ⟨(ai.add (x * 7)).block, (ai.add (x * 7)).off + 5, none⟩ = some (.slice A' k.ins[x].term.kids.length c') ∧ w'.cell? ⟨(ai.add (x * 7)).block, (ai.add (x * 7)).off + 6, none⟩ = some (.int .i64 k.ins[x].to))
        (first | exact ⟨c4, hcx, k0, k1, k2, k3, k4, k5, k6⟩ | assumption | go_keep)
        (fail)
      have hbA : Below wr.heap.size wr (wr.alloc (.cells #[.int .i64 (opN k x), .int .i64 (argN k x), .int .i64 k.ins[x].term.kind, .int .i64 k.ins[x].term.num, .string k.ins[x].term.name, .slice A' k.ins[x].term.kids.length c', .int .i64 k.ins[x].to] 57)).drew := (below_alloc0 _ _).drew
      have ca0 : (wr.alloc (.cells #[.int .i64 (opN k x), .int .i64 (argN k x), .int .i64 k.ins[x].term.kind, .int .i64 k.ins[x].term.num, .string k.ins[x].term.name, .slice A' k.ins[x].term.kids.length c', .int .i64 k.ins[x].to] 57)).drew.cell? ⟨wr.heap.size, 0, none⟩ = some (.int .i64 (opN k x)) := box_cell wr #[.int .i64 (opN k x), .int .i64 (argN k x), .int .i64 k.ins[x].term.kind, .int .i64 k.ins[x].term.num, .string k.ins[x].term.name, .slice A' k.ins[x].term.kids.length c', .int .i64 k.ins[x].to] 57 0 rfl
      have ca1 : (wr.alloc (.cells #[.int .i64 (opN k x), .int .i64 (argN k x), .int .i64 k.ins[x].term.kind, .int .i64 k.ins[x].term.num, .string k.ins[x].term.name, .slice A' k.ins[x].term.kids.length c', .int .i64 k.ins[x].to] 57)).drew.cell? ⟨wr.heap.size, 1, none⟩ = some (.int .i64 (argN k x)) := box_cell wr #[.int .i64 (opN k x), .int .i64 (argN k x), .int .i64 k.ins[x].term.kind, .int .i64 k.ins[x].term.num, .string k.ins[x].term.name, .slice A' k.ins[x].term.kids.length c', .int .i64 k.ins[x].to] 57 1 rfl
      generalize (wr.alloc (.cells #[.int .i64 (opN k x), .int .i64 (argN k x), .int .i64 k.ins[x].term.kind, .int .i64 k.ins[x].term.num, .string k.ins[x].term.name, .slice A' k.ins[x].term.kids.length c', .int .i64 k.ins[x].to] 57)).drew = W2 at hbA ca0 ca1 ⊢
      have hPW := hS.below hbA
      have hbx2 := hbxr.to hbA
      have hcx2 := cell_below hbA hcx
      obtain ⟨_, _, b0, b1, b2, b3, b4⟩ := id hbx2
      clear c0 c1 c2 c3 c4 k0 k1 k2 k3 k4 k5 k6 hcx hS hbxr hbw hsz hbl hbi
      by_cases h4 : opN k x = 4
      · have hal := argN_lt HRR.out hxl (.inl h4)
        have e4 : (opN k x == 4) = true := by simpa using h4
        have HH4 := Lib.hid h4
        obtain ⟨adk, ek, _, hck⟩ := (hrk.below hbx2.1).mark (j := argN k x) (by rw [markL_len]; exact hal)
        have w1' : (0 : Int) ≤ (argN k x : Int) := by omega
        have w2' : (argN k x : Int) < (k.procs.length : Int) := by omega
        have HEK := Lib.hid ek
        rw [ek]
        clear h4 ek
        by_cases hR : R (argN k x)
        · rw [mkd_markL_pos hal hR] at hck
          have HGO := Lib.hid (show opN k x = 4 → R (argN k x) from fun _ => hR)
          clear hR
          go_wp2_with fail
          rw [← HEK.out]
          clear hck ca0 ca1
          go_region_held3 (fun w' => Below W2.heap.size W2 w' ∧ w'.cell? ⟨w.heap.size, 0, none⟩ = some (.slice v.gA k.globals.length v.gc) ∧ w'.cell? ⟨w.heap.size, 1, none⟩ = some (.slice v.lA k.locks.length v.lc) ∧
                    w'.cell? ⟨w.heap.size, 2, none⟩ = some (.slice v.pA k.procs.length v.pc) ∧ w'.cell? ⟨w.heap.size, 3, none⟩ = some (.slice v.eA k.entry.length v.ec) ∧ w'.cell? ⟨w.heap.size, 4, none⟩ = some (.slice v.iA k.ins.length v.ic) ∧ w'.cell? (ad.add h) = some (.int .i64 x))
            (first | exact ⟨(Below.refl _ _).drew, b0, b1, b2, b3, b4, hcx2⟩ | assumption | (go_split_ands; refine ⟨below_trans' (by assumption) hb1, ?_, ?_, ?_, ?_, ?_, ?_⟩ <;> exact cell_below hb1 (by assumption)))
            (first | (go_at_call 83; go_split_ands; refine (HNX.out x hxl _ (hkf.below (below_trans' hbx2.1 (by assumption)))).mono ?_; rintro e w2 ⟨An, cn, rfl, hon, hb1⟩))
          have hb2 : Below W2.heap.size W2 w2 := below_trans' ((Below.refl _ _).drew) hb1
          have hP := hPW.below hb2
          have hap : Apart (.slice An (nextL k x).length cn) (.slice (some ad) xs.length ct) := fun b h1 h2 => by
            have h3 : W2.heap.size ≤ b := (hon.lt b h1).1
            have h4 := (hPW.todo.lt b h2).2
            omega
          have hon : w2.ownsRow W2.heap.size 3 1 (.slice An (nextL k x).length cn) (nextL k x).length (nv (nextL k x)) := hon
          have hszo : w1.heap.size ≤ W2.heap.size := hPW.grown.size
          clear hPW hcx2 hb1 hb2 b0 b1 b2 b3 b4 hbx2
          have HNE := Lib.hid (show nxR k R x = nextL k x from nxR_go HGO.out)
          have HXN := Lib.hid (fun y (hy : y ∈ nextL k x) => HR.out x y hxl (by rw [HNE.out]; exact hy))
          have HNL := Lib.hid (nextL_len k x)
          generalize hns : nextL k x = ns at hon HXN HNL hap HNE ⊢
          have HNS := Lib.hid (show nxR k R x = ns from HNE.out)
          clear hns
          have hnl2 := HNL.out
          go_wp2_with fail
          obtain ⟨wq, rfl⟩ : ∃ wq : World, wq = wr := ⟨_, rfl⟩
          obtain ⟨go, rfl⟩ : ∃ go : Nat, go = gk := ⟨_, rfl⟩
          go_loopg [8, 12] ns.length (fun l td i wr => ∃ (j : Nat) (xs : List Nat) (ms2 : List Bool), j ≤ ns.length ∧ l = ns.length - j ∧ i = .int .i64 j ∧ h + 1 ≤ xs.length ∧ Spr w1 W.heap.size W.heap.size k.ins.length k.ins.length (nxR k R) (ent k p) ((List.replicate k.ins.length false).set (ent k p) true) go td xs (x :: xs.drop (h + 1)) ms2 wr ∧ (∀ y ∈ ns.take j, mkd ms2 y = true) ∧ wr.ownsRow W2.heap.size 3 1 (.slice An ns.length cn) ns.length (nv ns) ∧ Apart (.slice An ns.length cn) td)
          case atStart => exact ⟨0, xs, ms, by omega, by omega, rfl, hlt, hP, by simp, hon, hap⟩
          case round =>
            clear hP hon hap
            obtain ⟨j, xs, ms2, hj, rfl, rfl, hh2, hP, hall, hon, hap⟩ := hrel
            have HALL := Lib.hid hall
            clear hall
            obtain ⟨A2, c2', rfl⟩ := own_form hP.todo
            by_cases hltj : j < ns.length
            · obtain ⟨adn, rfl, _, hcj⟩ := (own_rd hon).nat hltj
              have hyl := HXN.out ns[j] (List.getElem_mem hltj)
              have hml := hP.len
              have HML := Lib.hid hml
              have hcm := own_at hP.marks (j := ns[j]) hyl (u := .bool (mkd ms2 ns[j])) (by rw [List.getElem?_map, List.getElem?_eq_getElem (by omega), mkd_get (by omega)]; rfl)
              have HY := Lib.hid (show ns[j] ∈ nxR k R x from by rw [HNS.out]; exact List.getElem_mem hltj)
              have HT := Lib.hid (fun P => take_all (P := P) hltj)
              clear hml
              generalize ns[j] = y at *
              have z1 : (0 : Int) ≤ (y : Int) := by omega
              have z2 : (y : Int) < (k.ins.length : Int) := by omega
              cases hmk : mkd ms2 y
              · rw [hmk] at hcm
                have HMK := Lib.hid hmk
                clear hmk
                have hfz := hP.marks.frozenAt y
                obtain ⟨s0, s1, s2⟩ := hP.mark hyl HMK.out (x := x) (List.mem_cons_self ..) HY.out
                have hsz := hP.grown.size
                have hcn := hP.cnt
                have hcj2 := s2.cell hcj (by
                  intro h1
                  rw [block_of_add] at h1
                  have h2 := (hon.lt adn.block rfl).1
                  injection h1 with h1
                  omega)
                have hbl2 : (adn.add j).block ≠ W.heap.size := by
                  rw [block_of_add]
                  have h2 := (hon.lt adn.block rfl).1
                  omega
                go_wp2_with (at_builtin; refine append_int2 rfl _ _ rfl s0 rfl rfl (by simp) (by omega) (by simpa using hsz) ?_; intro A' c' w2 ho2 hg2 hl2)
                go_roundg (ns.length - (j + 1))
                case measure => omega
                case rel =>
                  have hon1 := hon.kept s2 (.inr (by
                    intro h1
                    have := (hon.lt W.heap.size h1).1
                    have := hP.grown.size
                    omega))
                  have hpu := hP.push hyl HMK.out (x := x) (List.mem_cons_self ..) HY.out ho2 hg2
                  rw [List.cons_append, ← List.drop_append_of_le_length hh2] at hpu
                  refine ⟨j + 1, xs ++ [y], ms2.set y true, by omega, rfl, by go_num, by simp; omega, hpu.mono (by omega), HT.out (fun z => mkd (ms2.set y true) z = true) (fun z hz => ?_) ?_, hon1.kept hg2 hap.kept, ?_⟩
                  · rw [mkd_set (by have := HML.out; omega)]
                    split
                    · rfl
                    · exact HALL.out z hz
                  · rw [mkd_set (by have := HML.out; omega), if_pos rfl]
                  · intro b h1 h2
                    rcases hl2 with h3 | h3
                    · rw [h3] at h2; exact hap b h1 h2
                    · rw [h3] at h2
                      have := (hon.lt b h1).2
                      injection h2 with h2
                      simp at h2
                      omega
              · rw [hmk] at hcm
                have HMK := Lib.hid hmk
                clear hmk
                go_wp2_with fail
                go_roundg (ns.length - (j + 1))
                case measure => omega
                case rel => exact ⟨j + 1, xs, ms2, by omega, rfl, by go_num, hh2, hP, HT.out _ HALL.out HMK.out, hon, hap⟩
            · obtain rfl : j = ns.length := by omega
              have hcn := hP.cnt
              go_wp2_with fail
              go_roundg (go - 1)
              case measure => have := hP.pos; omega
              case rel =>
                have h1 := HALL.out
                rw [List.take_length, ← HNS.out] at h1
                exact ⟨h + 1, xs, ms2, by go_num, hh2, hP.done h1⟩
        · rw [mkd_markL_neg hR] at hck
          have hst := nxR_stop HH4.out hR
          have hD := hPW.done (fun y hy => by rw [hst] at hy; simp at hy)
          have hpos := hPW.pos
          clear hst hR
          go_wp2_with fail
          rw [← HEK.out]
          go_roundg (gk - 1)
          case measure => omega
          case rel => exact ⟨h + 1, xs, ms, by go_num, by omega, hD⟩
      · have e4 : (opN k x == 4) = false := by simpa using h4
        have HGO := Lib.hid (show opN k x = 4 → R (argN k x) from fun h => absurd h h4)
        clear h4
        go_wp2_with fail
        clear ca0 ca1
        go_region_held3 (fun w' => Below W2.heap.size W2 w' ∧ w'.cell? ⟨w.heap.size, 0, none⟩ = some (.slice v.gA k.globals.length v.gc) ∧ w'.cell? ⟨w.heap.size, 1, none⟩ = some (.slice v.lA k.locks.length v.lc) ∧
                  w'.cell? ⟨w.heap.size, 2, none⟩ = some (.slice v.pA k.procs.length v.pc) ∧ w'.cell? ⟨w.heap.size, 3, none⟩ = some (.slice v.eA k.entry.length v.ec) ∧ w'.cell? ⟨w.heap.size, 4, none⟩ = some (.slice v.iA k.ins.length v.ic) ∧ w'.cell? (ad.add h) = some (.int .i64 x))
          (first | exact ⟨(Below.refl _ _).drew, b0, b1, b2, b3, b4, hcx2⟩ | assumption | (go_split_ands; refine ⟨below_trans' (by assumption) hb1, ?_, ?_, ?_, ?_, ?_, ?_⟩ <;> exact cell_below hb1 (by assumption)))
          (first | (go_at_call 83; go_split_ands; refine (HNX.out x hxl _ (hkf.below (below_trans' hbx2.1 (by assumption)))).mono ?_; rintro e w2 ⟨An, cn, rfl, hon, hb1⟩))
        have hb2 : Below W2.heap.size W2 w2 := below_trans' ((Below.refl _ _).drew) hb1
        have hP := hPW.below hb2
        have hap : Apart (.slice An (nextL k x).length cn) (.slice (some ad) xs.length ct) := fun b h1 h2 => by
          have h3 : W2.heap.size ≤ b := (hon.lt b h1).1
          have h4 := (hPW.todo.lt b h2).2
          omega
        have hon : w2.ownsRow W2.heap.size 3 1 (.slice An (nextL k x).length cn) (nextL k x).length (nv (nextL k x)) := hon
        have hszo : w1.heap.size ≤ W2.heap.size := hPW.grown.size
        clear hPW hcx2 hb1 hb2 b0 b1 b2 b3 b4 hbx2
        have HNE := Lib.hid (show nxR k R x = nextL k x from nxR_go HGO.out)
        have HXN := Lib.hid (fun y (hy : y ∈ nextL k x) => HR.out x y hxl (by rw [HNE.out]; exact hy))
        have HNL := Lib.hid (nextL_len k x)
        generalize hns : nextL k x = ns at hon HXN HNL hap HNE ⊢
        have HNS := Lib.hid (show nxR k R x = ns from HNE.out)
        clear hns
        have hnl2 := HNL.out
        go_wp2_with fail
        obtain ⟨wq, rfl⟩ : ∃ wq : World, wq = wr := ⟨_, rfl⟩
        obtain ⟨go, rfl⟩ : ∃ go : Nat, go = gk := ⟨_, rfl⟩
        go_loopg [8, 12] ns.length (fun l td i wr => ∃ (j : Nat) (xs : List Nat) (ms2 : List Bool), j ≤ ns.length ∧ l = ns.length - j ∧ i = .int .i64 j ∧ h + 1 ≤ xs.length ∧ Spr w1 W.heap.size W.heap.size k.ins.length k.ins.length (nxR k R) (ent k p) ((List.replicate k.ins.length false).set (ent k p) true) go td xs (x :: xs.drop (h + 1)) ms2 wr ∧ (∀ y ∈ ns.take j, mkd ms2 y = true) ∧ wr.ownsRow W2.heap.size 3 1 (.slice An ns.length cn) ns.length (nv ns) ∧ Apart (.slice An ns.length cn) td)
        case atStart => exact ⟨0, xs, ms, by omega, by omega, rfl, hlt, hP, by simp, hon, hap⟩
        case round =>
          clear hP hon hap
          obtain ⟨j, xs, ms2, hj, rfl, rfl, hh2, hP, hall, hon, hap⟩ := hrel
          have HALL := Lib.hid hall
          clear hall
          obtain ⟨A2, c2', rfl⟩ := own_form hP.todo
          by_cases hltj : j < ns.length
          · obtain ⟨adn, rfl, _, hcj⟩ := (own_rd hon).nat hltj
            have hyl := HXN.out ns[j] (List.getElem_mem hltj)
            have hml := hP.len
            have HML := Lib.hid hml
            have hcm := own_at hP.marks (j := ns[j]) hyl (u := .bool (mkd ms2 ns[j])) (by rw [List.getElem?_map, List.getElem?_eq_getElem (by omega), mkd_get (by omega)]; rfl)
            have HY := Lib.hid (show ns[j] ∈ nxR k R x from by rw [HNS.out]; exact List.getElem_mem hltj)
            have HT := Lib.hid (fun P => take_all (P := P) hltj)
            clear hml
            generalize ns[j] = y at *
            have z1 : (0 : Int) ≤ (y : Int) := by omega
            have z2 : (y : Int) < (k.ins.length : Int) := by omega
            cases hmk : mkd ms2 y
            · rw [hmk] at hcm
              have HMK := Lib.hid hmk
              clear hmk
              have hfz := hP.marks.frozenAt y
              obtain ⟨s0, s1, s2⟩ := hP.mark hyl HMK.out (x := x) (List.mem_cons_self ..) HY.out
              have hsz := hP.grown.size
              have hcn := hP.cnt
              have hcj2 := s2.cell hcj (by
                intro h1
                rw [block_of_add] at h1
                have h2 := (hon.lt adn.block rfl).1
                injection h1 with h1
                omega)
              have hbl2 : (adn.add j).block ≠ W.heap.size := by
                rw [block_of_add]
                have h2 := (hon.lt adn.block rfl).1
                omega
              go_wp2_with (at_builtin; refine append_int2 rfl _ _ rfl s0 rfl rfl (by simp) (by omega) (by simpa using hsz) ?_; intro A' c' w2 ho2 hg2 hl2)
              go_roundg (ns.length - (j + 1))
              case measure => omega
              case rel =>
                have hon1 := hon.kept s2 (.inr (by
                  intro h1
                  have := (hon.lt W.heap.size h1).1
                  have := hP.grown.size
                  omega))
                have hpu := hP.push hyl HMK.out (x := x) (List.mem_cons_self ..) HY.out ho2 hg2
                rw [List.cons_append, ← List.drop_append_of_le_length hh2] at hpu
                refine ⟨j + 1, xs ++ [y], ms2.set y true, by omega, rfl, by go_num, by simp; omega, hpu.mono (by omega), HT.out (fun z => mkd (ms2.set y true) z = true) (fun z hz => ?_) ?_, hon1.kept hg2 hap.kept, ?_⟩
                · rw [mkd_set (by have := HML.out; omega)]
                  split
                  · rfl
                  · exact HALL.out z hz
                · rw [mkd_set (by have := HML.out; omega), if_pos rfl]
                · intro b h1 h2
                  rcases hl2 with h3 | h3
                  · rw [h3] at h2; exact hap b h1 h2
                  · rw [h3] at h2
                    have := (hon.lt b h1).2
                    injection h2 with h2
                    simp at h2
                    omega
            · rw [hmk] at hcm
              have HMK := Lib.hid hmk
              clear hmk
              go_wp2_with fail
              go_roundg (ns.length - (j + 1))
              case measure => omega
              case rel => exact ⟨j + 1, xs, ms2, by omega, rfl, by go_num, hh2, hP, HT.out _ HALL.out HMK.out, hon, hap⟩
          · obtain rfl : j = ns.length := by omega
            have hcn := hP.cnt
            go_wp2_with fail
            go_roundg (go - 1)
            case measure => have := hP.pos; omega
            case rel =>
              have h1 := HALL.out
              rw [List.take_length, ← HNS.out] at h1
              exact ⟨h + 1, xs, ms2, by go_num, hh2, hP.done h1⟩
    · obtain rfl : h = xs.length := by omega
      rw [List.drop_length] at hS
      have e := hS.srch.one hent
      subst e
      go_wp2_with fail
      refine (HEN.out _ (hkf.below hbw)).mono ?_
      rintro e w4 ⟨rfl, hb4⟩
      have hm4 := own_below hS.marks hb4
      have hcm := own_at hm4 (j := fin k p - 1) hfin.1 (u := .bool (mkd (markL k.ins.length (Comes (nxR k R) (ent k p))) (fin k p - 1))) (by rw [List.getElem?_map, List.getElem?_eq_getElem (by rw [markL_len]; exact hfin.1), mkd_get (by rw [markL_len]; exact hfin.1)]; rfl)
      have z1 : (0 : Int) ≤ ((fin k p - 1 : Nat) : Int) := by omega
      have z2 : ((fin k p - 1 : Nat) : Int) < (k.ins.length : Int) := by omega
      generalize hF : fin k p - 1 = F at *
      go_wp2_with fail
      go_ret
      refine ⟨⟨_, rfl, ?_⟩, below_trans' hbw hb4⟩
      rw [mkd_markL_true]
      unfold EndP
      rw [hF]
      exact ⟨fun h => h.2, fun h => ⟨by omega, h⟩⟩
end Go.Proofs.Ytjnlmiekldflhaa
