/- Contracts of endReached and l10Comes: is the end reached, where only some procedures return? -/
import Derived.Test.YtkgoajnnkimkaaaGreatMFnCalls
set_option linter.unusedSimpArgs false
set_option linter.unusedVariables false
namespace Go.Proofs.YtkgoajnnkimkaaaGreat
open Go.ChangeShapes Go.WideShapes Go.ChangeAt Go.RowKit
open Classical in
/-- What comes next, where the procedures of R alone return. -/
noncomputable def nxR (k : Cd) (R : Nat → Prop) (a : Nat) : List Nat := if opN k a = 4 ∧ ¬ R (argN k a) then [] else nextL k a
theorem nxR_sub {k : Cd} {R : Nat → Prop} {a n : Nat} (h : n ∈ nxR k R a) : n ∈ nextL k a := by
  unfold nxR at h
  split at h
  · simp at h
  · exact h
theorem nxR_stop {k : Cd} {R : Nat → Prop} {a : Nat} (h1 : opN k a = 4) (h2 : ¬ R (argN k a)) : nxR k R a = [] := by rw [nxR, if_pos ⟨h1, h2⟩]
theorem nxR_go {k : Cd} {R : Nat → Prop} {a : Nat} (h : opN k a = 4 → R (argN k a)) : nxR k R a = nextL k a := by rw [nxR, if_neg fun h1 => h1.2 (h h1.1)]
theorem nxR_mono {k : Cd} {R S : Nat → Prop} (h : ∀ q, R q → S q) {a n : Nat} (hn : n ∈ nxR k R a) : n ∈ nxR k S a := by
  by_cases h1 : opN k a = 4 ∧ ¬ R (argN k a)
  · rw [nxR_stop h1.1 h1.2] at hn
    simp at hn
  · have h2 : opN k a = 4 → R (argN k a) := fun h3 => Classical.byContradiction fun h4 => h1 ⟨h3, h4⟩
    rw [nxR_go h2] at hn
    rw [nxR_go fun h3 => h _ (h2 h3)]
    exact hn
theorem Comes.mono {nx ny : Nat → List Nat} (h : ∀ a n, n ∈ nx a → n ∈ ny a) {a b : Nat} (hc : Comes nx a b) : Comes ny a b :=
  hc.inv (P := fun b => Comes ny a b) (.refl _ _) fun x hx n hn => hx.step (h x n hn)
/-- The end of p is come to, where the procedures of R alone return. -/
def EndP (k : Cd) (R : Nat → Prop) (p : Nat) : Prop := Comes (nxR k R) (ent k p) (fin k p - 1)
theorem nxR_in {k : Cd} (hr : Right k) {R : Nat → Prop} {x n : Nat} (hx : x < k.ins.length) (hn : n ∈ nxR k R x) : n < k.ins.length := (nextL_in hr hx (nxR_sub hn)).1
theorem endP_of {k : Cd} (hr : Right k) {R : Nat → Prop} {p x : Nat} (hp : p < k.procs.length) (hx : Comes (nxR k R) (ent k p) x) (h9 : opN k x = 9) : EndP k R p := by
  have h1 := comes_in hr (ent_lt hr hp) (hx.mono fun a n h => nxR_sub h)
  rw [procN_ent hr hp] at h1
  have h2 := (hr.stop x h1.1).1 (by rw [opN_eq h1.1]; exact h9)
  rw [h1.2] at h2
  have e : fin k p - 1 = x := by omega
  unfold EndP
  rw [e]
  exact hx
theorem fin_op {k : Cd} (hr : Right k) {p : Nat} (hp : p < k.procs.length) : fin k p - 1 < k.ins.length ∧ opN k (fin k p - 1) = 9 := by
  have h1 := hr.lt p hp
  have h2 : fin k p - 1 < k.ins.length := by omega
  refine ⟨h2, ?_⟩
  rw [← opN_eq h2]
  refine (hr.stop _ h2).2 ?_
  rw [procN_fin hr hp]
  omega
theorem endP_not {k : Cd} (hr : Right k) {R : Nat → Prop} {p n : Nat} (hp : p < k.procs.length) {ms : List Bool} (h : ms = markL k.ins.length (Comes (nxR k R) (ent k p))) (h9 : ∀ b, mkd ms b = true → opN k b ≠ 9) : ¬ EndP k R p := by
  intro he
  have h1 := fin_op hr hp
  refine h9 (fin k p - 1) ?_ h1.2
  rw [h]
  exact mkd_markL_true.2 ⟨h1.1, he⟩

set_option maxRecDepth 100000 in
set_option maxHeartbeats 2000000 in
theorem endReached_any {B : Nat} (g : Nat) (v : CV) (k : Cd) (p s : Nat) (w : World) (hr : Right k) (hk : CodeAt w B v k) (hg : KAt w g v k) (hp : p < k.procs.length) (hs : s < 2 ^ k.procs.length) :
    Calls Tryz.prog 132 #[.pointer (some ⟨g, 0, none⟩), .int .i64 p, .int .i64 s] w fun e w' => (∃ r : Bool, e = .returned (.bool r) ∧ (r = true ↔ EndP k (fun q => s.testBit q = true) p)) ∧ Below w.heap.size w w' := by
  have hkf := hk.full
  have hins := hr.ins
  have hpl := hr.procs
  have h256 := pow_le_256 hr
  have hent := ent_lt hr hp
  have hgl : g < w.heap.size := World.block_lt_of_cell? w _ hg.1
  obtain ⟨ade, ee, hbe, hce⟩ := entry_cell hr hkf hp
  have hel : p < k.entry.length := by have := hr.entry; omega
  have HEE := Lib.hid ee
  have HR := Lib.hid (fun x n (hx : x < k.ins.length) (hn : n ∈ nxR k (fun q => s.testBit q = true) x) => nxR_in hr hx hn)
  have HNX := Lib.hid (fun x (hx : x < k.ins.length) W (h : Below w.heap.size w W) => nextIn_any g v k x W hr (hkf.below h) (hg.to h) hx)
  have HRR := Lib.hid hr
  have HYES := Lib.hid (fun x hx h9 => endP_of (R := fun q => s.testBit q = true) (x := x) hr hp hx h9)
  have HNO := Lib.hid (fun ms h h9 => endP_not (R := fun q => s.testBit q = true) (n := 0) (ms := ms) hr hp h h9)
  have hgK := hg
  obtain ⟨c0, c1, c2, c3, c4⟩ := hg
  rw [ee] at c3
  have y1 : (0 : Int) ≤ (p : Int) := by omega
  have y2 : (p : Int) < (k.entry.length : Int) := by omega
  have x1 : (0 : Int) ≤ (ent k p : Int) := by omega
  have x2 : (ent k p : Int) < (k.ins.length : Int) := by omega
  clear hk hr ee
  go_enter Tryz.func132, Tryz.ntmps132
  go_wp2_with (at_make; refine make_bools _ rfl _ _ rfl k.ins.length rfl rfl (by omega) ?_; intro w1 hown hb1; have fz := hown.frozenAt (ent k p); obtain ⟨u, hu⟩ := own_has hown (j := ent k p) (by omega); have hce1 := cell_below hb1 hce; have c31 := cell_below hb1 c3; have hbl1 : (ade.add p).block ≠ w.heap.size := (by rw [block_of_add]; omega); have hg1 : g ≠ w.heap.size := (by omega); have hs0 := own_stored hown (ent k p); have hce2 := (hs0.2).cell hce1 (by simpa using hbl1); have c32 := (hs0.2).cell c31 (by simpa using hg1))
  have hS : Spr w1 w.heap.size w.heap.size k.ins.length k.ins.length (nxR k (fun q => s.testBit q = true)) (ent k p) ((List.replicate k.ins.length false).set (ent k p) true) (2 * k.ins.length + 1) (.slice (some ⟨w1.heap.size, 0, none⟩) 1 1) [ent k p] ([ent k p]) ((List.replicate k.ins.length false).set (ent k p) true) ((w1.setCell ⟨w.heap.size, ent k p, none⟩ (.bool true)).alloc (.cells #[.int .i64 (ent k p)] 3)) := by
    have hun := unm_le ((List.replicate k.ins.length false).set (ent k p) true)
    simp only [List.length_set, List.length_replicate] at hun
    refine ⟨?_, .start (by simpa using hent), hs0.1.alloc _, hs0.2.trans (World.grownBy_alloc _ _ _), (own_lt hown).2, by simp; omega, by simp; omega⟩
    have := World.ownsRow_lit (base := w1.heap.size) (e := 3) (size := 1) (w1.setCell ⟨w.heap.size, ent k p, none⟩ (.bool true)) #[.int .i64 (ent k p)] 1 (by simp) (by unfold maxLen; omega) (by simp)
    simpa [nv, natI, iv] using this
  have h90 : ∀ b, mkd ((List.replicate k.ins.length false).set (ent k p) true) b = true → b ∈ [ent k p] ∨ opN k b ≠ 9 := fun b hb => by
    rw [mkd_set (by simpa using hent), mkd_replicate] at hb
    by_cases e : ent k p = b
    · exact .inl (by simp [e])
    · rw [if_neg e] at hb; simp at hb
  have hw1 := (own_lt hown).2
  have HBW := Lib.hid (show ∀ W, w1.grownBy W (some w.heap.size) → Below w.heap.size w W from fun W h => hb1.trans (below_grown h (by omega) (Nat.le_refl _)))
  clear hown fz hu hce1 c31 hs0 hce2 c32 c0 c1 c2 c3 c4 hce hb1 hbl1 hg1
  go_loopg [8] (2 * k.ins.length + 1) (fun m td wr => ∃ (xs : List Nat) (ms' : List Bool), Spr w1 w.heap.size w.heap.size k.ins.length k.ins.length (nxR k (fun q => s.testBit q = true)) (ent k p) ((List.replicate k.ins.length false).set (ent k p) true) m td xs (xs) ms' wr ∧ (∀ b, mkd ms' b = true → b ∈ xs ∨ opN k b ≠ 9))
  case atStart => exact ⟨_, _, hS, h90⟩
  case round =>
    clear hS h90
    obtain ⟨xs, ms', hS, h9⟩ := hrel
    obtain ⟨A, ct, rfl⟩ := own_form hS.todo
    rcases nil_or_snoc xs with rfl | ⟨ys, x, rfl⟩
    · go_wp2_with fail
      go_ret
      have e := hS.srch.one hent
      refine ⟨⟨false, rfl, ?_⟩, HBW.out _ hS.grown⟩
      simp only [Bool.false_eq_true, false_iff]
      exact HNO.out ms' e fun b hb => (h9 b hb).resolve_left (by simp)
    · have e1 : (ys ++ [x]).length = ys.length + 1 := by simp
      have hown := hS.todo
      rw [e1] at hown ⊢
      clear e1
      obtain ⟨gt, rfl⟩ := own_some hown (by omega)
      have hc := own_at hown (j := ys.length) (by omega) (u := .int .i64 x) (by simp [nv, iv, natI])
      have hyl : ys.length ≤ 1501 := by have := hS.cnt; simp at this; omega
      have hcap := own_cap hown
      have hcap1 : (ys.length : Int) ≤ (ct : Int) := by omega
      have htd := hS.srch.td x (by simp)
      have hxl : x < k.ins.length := by have := htd.1; rw [hS.len] at this; exact this
      have HTD := Lib.hid htd.2
      have hPP := hS.pop
      have hbw := HBW.out _ hS.grown
      obtain ⟨d0, d1, d2, d3, d4⟩ := hgK.to hbw
      obtain ⟨ai, A', c', eA, hbi, k0, k1, k2, k3, k4, k5, k6, _⟩ := (hkf.below hbw).full.i.get hxl
      rw [eA] at d4
      rw [opN_eq hxl] at k0
      rw [argN_eq HRR.out hxl] at k1
      have z1 : (0 : Int) ≤ (x : Int) := by omega
      have z2 : (x : Int) < (k.ins.length : Int) := by omega
      have hbA := below_alloc0 wr (.cells #[.int .i64 (opN k x), .int .i64 (argN k x), .int .i64 k.ins[x].term.kind, .int .i64 k.ins[x].term.num, .string k.ins[x].term.name, .slice A' k.ins[x].term.kids.length c', .int .i64 k.ins[x].to] 52)
      have hPW := hPP.below hbA
      have hbwW := below_trans' hbw hbA
      have ca0 := box_cell wr #[.int .i64 (opN k x), .int .i64 (argN k x), .int .i64 k.ins[x].term.kind, .int .i64 k.ins[x].term.num, .string k.ins[x].term.name, .slice A' k.ins[x].term.kids.length c', .int .i64 k.ins[x].to] 52 0 rfl
      have ca1 := box_cell wr #[.int .i64 (opN k x), .int .i64 (argN k x), .int .i64 k.ins[x].term.kind, .int .i64 k.ins[x].term.num, .string k.ins[x].term.name, .slice A' k.ins[x].term.kids.length c', .int .i64 k.ins[x].to] 52 1 rfl
      clear eA hS hown hPP
      by_cases h1 : opN k x = 9
      · have HY := Lib.hid (HYES.out x HTD.out h1)
        rw [h1] at k0
        clear h1 h9 ca0 ca1 hbA hPW hbwW
        go_wp2_with fail
        go_ret
        refine ⟨⟨true, rfl, ?_⟩, below_trans' hbw (below_alloc0 _ _)⟩
        simp only [true_iff]
        exact HY.out
      · have e9 : (opN k x == 9) = false := by simpa using h1
        have h9 : ∀ b, mkd ms' b = true → b ∈ ys ∨ opN k b ≠ 9 := fun b hb => by
          rcases h9 b hb with h | h
          · rcases List.mem_append.1 h with h | h
            · exact .inl h
            · simp at h; subst h; exact .inr h1
          · exact .inr h
        clear h1
        by_cases h4 : opN k x = 4
        · have hal := argN_lt HRR.out hxl (.inl h4)
          have e4 : (opN k x == 4) = true := by simpa using h4
          have HHB := Lib.hid (fun W => hasBit_any s (argN k x) W (by omega) (by omega))
          have H9 := Lib.hid h9
          have HH4 := Lib.hid h4
          clear h9 h4
          go_wp2_with fail
          generalize wr.alloc (.cells #[.int .i64 (opN k x), .int .i64 (argN k x), .int .i64 k.ins[x].term.kind, .int .i64 k.ins[x].term.num, .string k.ins[x].term.name, .slice A' k.ins[x].term.kids.length c', .int .i64 k.ins[x].to] 52) = W at hbA hPW hbwW ca0 ca1 ⊢
          refine (HHB.out _).mono ?_
          rintro e w9 ⟨rfl, rfl⟩
          cases hbit : s.testBit (argN k x)
          · have hst := nxR_stop (R := fun q => s.testBit q = true) HH4.out (by rw [hbit]; simp)
            have hD := hPW.done (fun y hy => by rw [hst] at hy; simp at hy)
            have hpos := hPW.pos
            clear hst hbit
            go_wp2_with fail
            go_roundg (gk - 1)
            case measure => omega
            case rel => exact ⟨ys, ms', hD, H9.out⟩
          · have hgo : opN k x = 4 → s.testBit (argN k x) = true := fun _ => hbit
            have HGO := Lib.hid hgo
            clear hgo hbit d0 d1 d2 d3 d4 k0 k1 k2 k3 k4 k5 k6
            go_wp2_with fail
            have hgo := HGO.out
            have h9 := H9.out
            clear H9 HGO
            refine (HNX.out x hxl _ hbwW).mono ?_
            rintro e w3 ⟨An, cn, rfl, hon, hb3⟩
            have hP := hPW.below hb3
            have hap : Apart (.slice An (nextL k x).length cn) (.slice (some ⟨gt, 0, none⟩) ys.length ct) := fun b h1 h2 => by
              have h3 := (hon.lt b h1).1
              have h4 := (hPW.todo.lt b h2).2
              omega
            have hszo : w1.heap.size ≤ W.heap.size := hPW.grown.size
            have HNE := Lib.hid (show nxR k (fun q => s.testBit q = true) x = nextL k x from nxR_go (R := fun q => s.testBit q = true) hgo)
            have HXN := Lib.hid (fun y (hy : y ∈ nextL k x) => HR.out x y hxl (by rw [HNE.out]; exact hy))
            have HNL := Lib.hid (nextL_len k x)
            have H9 := Lib.hid h9
            clear h9
            generalize hns : nextL k x = ns at hon HXN HNL hap HNE ⊢
            have HNS := Lib.hid (show nxR k (fun q => s.testBit q = true) x = ns from HNE.out)
            clear hns
            have hnl2 := HNL.out
            go_wp2_with fail
            obtain ⟨wo, rfl⟩ : ∃ wo : World, wo = wr := ⟨_, rfl⟩
            obtain ⟨go, rfl⟩ : ∃ go : Nat, go = gk := ⟨_, rfl⟩
            go_loopg [8, 78] ns.length (fun l td i wr => ∃ (j : Nat) (xs : List Nat) (ms2 : List Bool), j ≤ ns.length ∧ l = ns.length - j ∧ i = .int .i64 j ∧ Spr w1 w.heap.size w.heap.size k.ins.length k.ins.length (nxR k (fun q => s.testBit q = true)) (ent k p) ((List.replicate k.ins.length false).set (ent k p) true) go td xs (x :: xs) ms2 wr ∧ (∀ y ∈ ns.take j, mkd ms2 y = true) ∧ wr.ownsRow W.heap.size 3 1 (.slice An ns.length cn) ns.length (nv ns) ∧ Apart (.slice An ns.length cn) td ∧ (∀ b, mkd ms2 b = true → b ∈ xs ∨ opN k b ≠ 9))
            case atStart => exact ⟨0, ys, ms', by omega, by omega, rfl, hP, by simp, hon, hap, H9.out⟩
            case round =>
              clear hP hon hap
              obtain ⟨j, xs, ms2, hj, rfl, rfl, hP, hall, hon, hap, h9⟩ := hrel
              have HALL := Lib.hid hall
              have H9 := Lib.hid h9
              clear hall h9
              obtain ⟨A2, c2', rfl⟩ := own_form hP.todo
              by_cases hlt : j < ns.length
              · obtain ⟨ad, rfl, _, hcj⟩ := (own_rd hon).nat hlt
                have hyl := HXN.out ns[j] (List.getElem_mem hlt)
                have hml := hP.len
                have HML := Lib.hid hml
                have hcm := own_at hP.marks (j := ns[j]) hyl (u := .bool (mkd ms2 ns[j])) (by rw [List.getElem?_map, List.getElem?_eq_getElem (by omega), mkd_get (by omega)]; rfl)
                have HY := Lib.hid (show ns[j] ∈ nxR k (fun q => s.testBit q = true) x from by rw [HNS.out]; exact List.getElem_mem hlt)
                have HT := Lib.hid (fun P => take_all (P := P) hlt)
                clear hml
                generalize ns[j] = y at *
                have z1 : (0 : Int) ≤ (y : Int) := by omega
                have z2 : (y : Int) < (k.ins.length : Int) := by omega
                cases hmk : mkd ms2 y
                · rw [hmk] at hcm
                  have HMK := Lib.hid hmk
                  clear hmk
                  have hfz := hP.marks.frozenAt y
                  obtain ⟨s0, s1, s2⟩ := hP.mark hyl HMK.out (x := x) (List.mem_cons_self ..) HY.out
                  have hsz := hP.grown.size
                  have hcn := hP.cnt
                  go_wp2_with (at_builtin; refine append_int2 rfl _ _ rfl s0 rfl rfl (by simp) (by omega) (by simpa using hsz) ?_; intro A' c' w2 ho2 hg2 hl2)
                  go_roundg (ns.length - (j + 1))
                  case measure => omega
                  case rel =>
                    have hon1 := hon.kept s2 (.inr (by
                      intro h1
                      have := (hon.lt w.heap.size h1).1
                      have := hP.grown.size
                      omega))
                    have hpu := hP.push hyl HMK.out (x := x) (List.mem_cons_self ..) HY.out ho2 hg2
                    refine ⟨j + 1, xs ++ [y], ms2.set y true, by omega, rfl, by go_num, hpu.mono (by omega), HT.out (fun z => mkd (ms2.set y true) z = true) (fun z hz => ?_) ?_, hon1.kept hg2 hap.kept, ?_, ?_⟩
                    · rw [mkd_set (by have := HML.out; omega)]
                      split
                      · rfl
                      · exact HALL.out z hz
                    · rw [mkd_set (by have := HML.out; omega), if_pos rfl]
                    · intro b h1 h2
                      rcases hl2 with h3 | h3
                      · rw [h3] at h2; exact hap b h1 h2
                      · rw [h3] at h2
                        have := (hon.lt b h1).2
                        injection h2 with h2
                        simp at h2
                        omega
                    · intro b hb
                      rw [mkd_set (by have := HML.out; omega)] at hb
                      by_cases e : y = b
                      · subst e; exact .inl (by simp)
                      · rw [if_neg e] at hb
                        rcases H9.out b hb with h | h
                        · exact .inl (List.mem_append_left _ h)
                        · exact .inr h
                · rw [hmk] at hcm
                  have HMK := Lib.hid hmk
                  clear hmk
                  go_wp2_with fail
                  go_roundg (ns.length - (j + 1))
                  case measure => omega
                  case rel => exact ⟨j + 1, xs, ms2, by omega, rfl, by go_num, hP, HT.out _ HALL.out HMK.out, hon, hap, H9.out⟩
              · obtain rfl : j = ns.length := by omega
                go_wp2_with fail
                go_roundg (go - 1)
                case measure => have := hP.pos; omega
                case rel =>
                  have h1 := HALL.out
                  rw [List.take_length, ← HNS.out] at h1
                  exact ⟨xs, ms2, hP.done h1, H9.out⟩
        · have e4 : (opN k x == 4) = false := by simpa using h4
          have hgo : opN k x = 4 → s.testBit (argN k x) = true := fun h => absurd h h4
          have HGO := Lib.hid hgo
          have H9 := Lib.hid h9
          clear h9 hgo h4
          go_wp2_with fail
          generalize wr.alloc (.cells #[.int .i64 (opN k x), .int .i64 (argN k x), .int .i64 k.ins[x].term.kind, .int .i64 k.ins[x].term.num, .string k.ins[x].term.name, .slice A' k.ins[x].term.kids.length c', .int .i64 k.ins[x].to] 52) = W at hbA hPW hbwW ca0 ca1 ⊢
          have hgo := HGO.out
          have h9 := H9.out
          clear H9 HGO d0 d1 d2 d3 d4 k0 k1 k2 k3 k4 k5 k6
          refine (HNX.out x hxl _ hbwW).mono ?_
          rintro e w3 ⟨An, cn, rfl, hon, hb3⟩
          have hP := hPW.below hb3
          have hap : Apart (.slice An (nextL k x).length cn) (.slice (some ⟨gt, 0, none⟩) ys.length ct) := fun b h1 h2 => by
            have h3 := (hon.lt b h1).1
            have h4 := (hPW.todo.lt b h2).2
            omega
          have hszo : w1.heap.size ≤ W.heap.size := hPW.grown.size
          have HNE := Lib.hid (show nxR k (fun q => s.testBit q = true) x = nextL k x from nxR_go (R := fun q => s.testBit q = true) hgo)
          have HXN := Lib.hid (fun y (hy : y ∈ nextL k x) => HR.out x y hxl (by rw [HNE.out]; exact hy))
          have HNL := Lib.hid (nextL_len k x)
          have H9 := Lib.hid h9
          clear h9
          generalize hns : nextL k x = ns at hon HXN HNL hap HNE ⊢
          have HNS := Lib.hid (show nxR k (fun q => s.testBit q = true) x = ns from HNE.out)
          clear hns
          have hnl2 := HNL.out
          go_wp2_with fail
          obtain ⟨wo, rfl⟩ : ∃ wo : World, wo = wr := ⟨_, rfl⟩
          obtain ⟨go, rfl⟩ : ∃ go : Nat, go = gk := ⟨_, rfl⟩
          go_loopg [8, 78] ns.length (fun l td i wr => ∃ (j : Nat) (xs : List Nat) (ms2 : List Bool), j ≤ ns.length ∧ l = ns.length - j ∧ i = .int .i64 j ∧ Spr w1 w.heap.size w.heap.size k.ins.length k.ins.length (nxR k (fun q => s.testBit q = true)) (ent k p) ((List.replicate k.ins.length false).set (ent k p) true) go td xs (x :: xs) ms2 wr ∧ (∀ y ∈ ns.take j, mkd ms2 y = true) ∧ wr.ownsRow W.heap.size 3 1 (.slice An ns.length cn) ns.length (nv ns) ∧ Apart (.slice An ns.length cn) td ∧ (∀ b, mkd ms2 b = true → b ∈ xs ∨ opN k b ≠ 9))
          case atStart => exact ⟨0, ys, ms', by omega, by omega, rfl, hP, by simp, hon, hap, H9.out⟩
          case round =>
            clear hP hon hap
            obtain ⟨j, xs, ms2, hj, rfl, rfl, hP, hall, hon, hap, h9⟩ := hrel
            have HALL := Lib.hid hall
            have H9 := Lib.hid h9
            clear hall h9
            obtain ⟨A2, c2', rfl⟩ := own_form hP.todo
            by_cases hlt : j < ns.length
            · obtain ⟨ad, rfl, _, hcj⟩ := (own_rd hon).nat hlt
              have hyl := HXN.out ns[j] (List.getElem_mem hlt)
              have hml := hP.len
              have HML := Lib.hid hml
              have hcm := own_at hP.marks (j := ns[j]) hyl (u := .bool (mkd ms2 ns[j])) (by rw [List.getElem?_map, List.getElem?_eq_getElem (by omega), mkd_get (by omega)]; rfl)
              have HY := Lib.hid (show ns[j] ∈ nxR k (fun q => s.testBit q = true) x from by rw [HNS.out]; exact List.getElem_mem hlt)
              have HT := Lib.hid (fun P => take_all (P := P) hlt)
              clear hml
              generalize ns[j] = y at *
              have z1 : (0 : Int) ≤ (y : Int) := by omega
              have z2 : (y : Int) < (k.ins.length : Int) := by omega
              cases hmk : mkd ms2 y
              · rw [hmk] at hcm
                have HMK := Lib.hid hmk
                clear hmk
                have hfz := hP.marks.frozenAt y
                obtain ⟨s0, s1, s2⟩ := hP.mark hyl HMK.out (x := x) (List.mem_cons_self ..) HY.out
                have hsz := hP.grown.size
                have hcn := hP.cnt
                go_wp2_with (at_builtin; refine append_int2 rfl _ _ rfl s0 rfl rfl (by simp) (by omega) (by simpa using hsz) ?_; intro A' c' w2 ho2 hg2 hl2)
                go_roundg (ns.length - (j + 1))
                case measure => omega
                case rel =>
                  have hon1 := hon.kept s2 (.inr (by
                    intro h1
                    have := (hon.lt w.heap.size h1).1
                    have := hP.grown.size
                    omega))
                  have hpu := hP.push hyl HMK.out (x := x) (List.mem_cons_self ..) HY.out ho2 hg2
                  refine ⟨j + 1, xs ++ [y], ms2.set y true, by omega, rfl, by go_num, hpu.mono (by omega), HT.out (fun z => mkd (ms2.set y true) z = true) (fun z hz => ?_) ?_, hon1.kept hg2 hap.kept, ?_, ?_⟩
                  · rw [mkd_set (by have := HML.out; omega)]
                    split
                    · rfl
                    · exact HALL.out z hz
                  · rw [mkd_set (by have := HML.out; omega), if_pos rfl]
                  · intro b h1 h2
                    rcases hl2 with h3 | h3
                    · rw [h3] at h2; exact hap b h1 h2
                    · rw [h3] at h2
                      have := (hon.lt b h1).2
                      injection h2 with h2
                      simp at h2
                      omega
                  · intro b hb
                    rw [mkd_set (by have := HML.out; omega)] at hb
                    by_cases e : y = b
                    · subst e; exact .inl (by simp)
                    · rw [if_neg e] at hb
                      rcases H9.out b hb with h | h
                      · exact .inl (List.mem_append_left _ h)
                      · exact .inr h
              · rw [hmk] at hcm
                have HMK := Lib.hid hmk
                clear hmk
                go_wp2_with fail
                go_roundg (ns.length - (j + 1))
                case measure => omega
                case rel => exact ⟨j + 1, xs, ms2, by omega, rfl, by go_num, hP, HT.out _ HALL.out HMK.out, hon, hap, H9.out⟩
            · obtain rfl : j = ns.length := by omega
              go_wp2_with fail
              go_roundg (go - 1)
              case measure => have := hP.pos; omega
              case rel =>
                have h1 := HALL.out
                rw [List.take_length, ← HNS.out] at h1
                exact ⟨xs, ms2, hP.done h1, H9.out⟩
end Go.Proofs.YtkgoajnnkimkaaaGreat
namespace Go.Proofs.YtkgoajnnkimkaaaGreat
open Go.ChangeShapes Go.WideShapes Go.ChangeAt Go.RowKit

set_option maxRecDepth 100000 in
set_option maxHeartbeats 2000000 in
theorem l10Comes_any {B L B' : Nat} (v : CV) (k : Cd) (p : Nat) (R : Nat → Prop) (Ak : Option Addr) (ck : Nat) (w : World) (hr : Right k) (hk : CodeAt w B v k) (hcb : CdB L k) (hL : L ≤ 1048576) (hp : p < k.procs.length) (hrk : Rd w B' Ak ((markL k.procs.length R).map bv)) :
    Calls Tryz.prog 179 #[.agg #[.slice v.gA k.globals.length v.gc, .slice v.lA k.locks.length v.lc, .slice v.pA k.procs.length v.pc, .slice v.eA k.entry.length v.ec, .slice v.iA k.ins.length v.ic], .int .i64 p, .slice Ak k.procs.length ck] w fun e w' => (∃ r : Bool, e = .returned (.bool r) ∧ (r = true ↔ EndP k R p)) ∧ Below w.heap.size w w' := by
  have hkf := hk.full
  have hrk := hrk.full
  have hbx := codeBox w v k
  have hins := hr.ins
  have hpl := hr.procs
  have hent := ent_lt hr hp
  obtain ⟨ade, ee, hbe, hce⟩ := entry_cell hr hkf hp
  have hel : p < k.entry.length := by have := hr.entry; omega
  have HEE := Lib.hid ee
  have HR := Lib.hid (fun x n (hx : x < k.ins.length) (hn : n ∈ nxR k R x) => nxR_in hr hx hn)
  have HNX := Lib.hid (fun x (hx : x < k.ins.length) W (h : CodeAt W w.heap.size v k) => l09Next_any v k x W hr h hx)
  have HEN := Lib.hid (fun W (h : CodeAt W w.heap.size v k) => l08End_right v k p W hr h hcb hL hp)
  have HRR := Lib.hid hr
  have hfin := fin_op hr hp
  have y1 : (0 : Int) ≤ (p : Int) := by omega
  have y2 : (p : Int) < (k.entry.length : Int) := by omega
  have x1 : (0 : Int) ≤ (ent k p : Int) := by omega
  have x2 : (ent k p : Int) < (k.ins.length : Int) := by omega
  clear hk hr ee hcb
  go_enter Tryz.func179, Tryz.ntmps179
  go_wp2_with (at_make; generalize w.alloc (.cells #[.slice v.gA k.globals.length v.gc, .slice v.lA k.locks.length v.lc, .slice v.pA k.procs.length v.pc, .slice v.eA k.entry.length v.ec, .slice v.iA k.ins.length v.ic] 28) = W at hbx ⊢; refine make_bools _ rfl _ _ rfl k.ins.length rfl rfl (by omega) ?_; intro w1 hown hb1; have fz := hown.frozenAt (ent k p); obtain ⟨u, hu⟩ := own_has hown (j := ent k p) (by omega); have hbx1 := hbx.to hb1; have hce1 := hbx1.1.cell (p := ade.add p) (by rw [block_of_add]; exact hbe); rw [hce] at hce1; obtain ⟨b1, b2, c0, c1, c2, c3, c4⟩ := id hbx1; rw [HEE.out] at c3; have hlt0 := hbx.2.1; have hbl1 : (ade.add p).block ≠ W.heap.size := (by rw [block_of_add]; omega); have hg1 : w.heap.size ≠ W.heap.size := (by omega); have hs0 := own_stored hown (ent k p); have hce2 := (hs0.2).cell hce1 (by simpa using hbl1); have c32 := (hs0.2).cell c3 (by simpa using hg1))
  have hgm1 := (own_lt hown).2
  have hS : Spr w1 W.heap.size W.heap.size k.ins.length k.ins.length (nxR k R) (ent k p) ((List.replicate k.ins.length false).set (ent k p) true) (2 * k.ins.length + 1) (.slice (some ⟨w1.heap.size, 0, none⟩) 1 1) [ent k p] ([ent k p]) ((List.replicate k.ins.length false).set (ent k p) true) ((w1.setCell ⟨W.heap.size, ent k p, none⟩ (.bool true)).alloc (.cells #[.int .i64 (ent k p)] 3)) := by
    have hun := unm_le ((List.replicate k.ins.length false).set (ent k p) true)
    simp only [List.length_set, List.length_replicate] at hun
    refine ⟨?_, .start (by simpa using hent), hs0.1.alloc _, hs0.2.trans (World.grownBy_alloc _ _ _), (own_lt hown).2, by simp; omega, by simp; omega⟩
    have := World.ownsRow_lit (base := w1.heap.size) (e := 3) (size := 1) (w1.setCell ⟨W.heap.size, ent k p, none⟩ (.bool true)) #[.int .i64 (ent k p)] 1 (by simp) (by unfold maxLen; omega) (by simp)
    simpa [nv, natI, iv] using this
  clear hown fz hu hce1 hs0 hce2 c32 c0 c1 c2 c3 c4 hb1 hbl1 hg1 b1 b2 hbx
  go_loopg [8, 9] (2 * k.ins.length + 1) (fun m td i wr => ∃ (h : Nat) (xs : List Nat) (ms : List Bool), i = .int .i64 h ∧ h ≤ xs.length ∧ Spr w1 W.heap.size W.heap.size k.ins.length k.ins.length (nxR k R) (ent k p) ((List.replicate k.ins.length false).set (ent k p) true) m td xs (xs.drop h) ms wr)
  case atStart => exact ⟨0, [ent k p], _, rfl, by simp, hS⟩
  case round =>
    clear hS
    obtain ⟨h, xs, ms, rfl, hh, hS⟩ := hrel
    obtain ⟨A, ct, rfl⟩ := own_form hS.todo
    have hcn := hS.cnt
    have hbxr := hbx1.grown hS.grown hlt0
    obtain ⟨hbw, hsz, c0, c1, c2, c3, c4⟩ := id hbxr
    by_cases hlt : h < xs.length
    · have hdr : xs.drop h = xs[h] :: xs.drop (h + 1) := List.drop_eq_getElem_cons hlt
      rw [hdr] at hS
      have hxl : xs[h] < k.ins.length := by have := (hS.srch.td xs[h] (List.mem_cons_self ..)).1; rw [hS.len] at this; exact this
      clear hdr
      obtain ⟨ad, rfl, hbl, hcx⟩ := (own_rd hS.todo).nat hlt
      generalize xs[h] = x at *
      have z1 : (0 : Int) ≤ (h : Int) := by omega
      have z2 : (h : Int) < (xs.length : Int) := by omega
      have z3 : (0 : Int) ≤ (x : Int) := by omega
      have z4 : (x : Int) < (k.ins.length : Int) := by omega
      obtain ⟨ai, A', c', eA, hbi, k0, k1, k2, k3, k4, k5, k6, _⟩ := (hkf.below hbw).full.i.get hxl
      have HEA := Lib.hid eA
      rw [eA] at c4
      rw [opN_eq hxl] at k0
      rw [argN_eq HRR.out hxl] at k1
      clear eA
      go_wp2_with fail
      go_region_held3 (fun w' => w'.cell? ⟨w.heap.size, 4, none⟩ = some (.slice (some ai) k.ins.length v.ic) ∧ w'.cell? (ad.add h) = some (.int .i64 x) ∧ w'.cell? (ai.add (x * 7)) = some (.int .i64 (opN k x)) ∧
          w'.cell? ⟨(ai.add (x * 7)).block, (ai.add (x * 7)).off + 1, none⟩ = some (.int .i64 (argN k x)) ∧ w'.cell? ⟨(ai.add (x * 7)).block, (ai.add (x * 7)).off + 2, none⟩ = some (.int .i64 k.ins[x].term.kind) ∧
          w'.cell? ⟨(ai.add (x * 7)).block, (ai.add (x * 7)).off + 3, none⟩ = some (.int .i64 k.ins[x].term.num) ∧ w'.cell? ⟨(ai.add (x * 7)).block, (ai.add (x * 7)).off + 4, none⟩ = some (.string k.ins[x].term.name) ∧
          w'.cell? ⟨(ai.add (x * 7)).block, (ai.add (x * 7)).off + 5, none⟩ = some (.slice A' k.ins[x].term.kids.length c') ∧ w'.cell? ⟨(ai.add (x * 7)).block, (ai.add (x * 7)).off + 6, none⟩ = some (.int .i64 k.ins[x].to))
        (first | exact ⟨c4, hcx, k0, k1, k2, k3, k4, k5, k6⟩ | assumption | go_keep)
        (fail)
      have hbA : Below wr.heap.size wr (wr.alloc (.cells #[.int .i64 (opN k x), .int .i64 (argN k x), .int .i64 k.ins[x].term.kind, .int .i64 k.ins[x].term.num, .string k.ins[x].term.name, .slice A' k.ins[x].term.kids.length c', .int .i64 k.ins[x].to] 52)).drew := (below_alloc0 _ _).drew
      have ca0 : (wr.alloc (.cells #[.int .i64 (opN k x), .int .i64 (argN k x), .int .i64 k.ins[x].term.kind, .int .i64 k.ins[x].term.num, .string k.ins[x].term.name, .slice A' k.ins[x].term.kids.length c', .int .i64 k.ins[x].to] 52)).drew.cell? ⟨wr.heap.size, 0, none⟩ = some (.int .i64 (opN k x)) := box_cell wr #[.int .i64 (opN k x), .int .i64 (argN k x), .int .i64 k.ins[x].term.kind, .int .i64 k.ins[x].term.num, .string k.ins[x].term.name, .slice A' k.ins[x].term.kids.length c', .int .i64 k.ins[x].to] 52 0 rfl
      have ca1 : (wr.alloc (.cells #[.int .i64 (opN k x), .int .i64 (argN k x), .int .i64 k.ins[x].term.kind, .int .i64 k.ins[x].term.num, .string k.ins[x].term.name, .slice A' k.ins[x].term.kids.length c', .int .i64 k.ins[x].to] 52)).drew.cell? ⟨wr.heap.size, 1, none⟩ = some (.int .i64 (argN k x)) := box_cell wr #[.int .i64 (opN k x), .int .i64 (argN k x), .int .i64 k.ins[x].term.kind, .int .i64 k.ins[x].term.num, .string k.ins[x].term.name, .slice A' k.ins[x].term.kids.length c', .int .i64 k.ins[x].to] 52 1 rfl
      generalize (wr.alloc (.cells #[.int .i64 (opN k x), .int .i64 (argN k x), .int .i64 k.ins[x].term.kind, .int .i64 k.ins[x].term.num, .string k.ins[x].term.name, .slice A' k.ins[x].term.kids.length c', .int .i64 k.ins[x].to] 52)).drew = W2 at hbA ca0 ca1 ⊢
      have hPW := hS.below hbA
      have hbx2 := hbxr.to hbA
      have hcx2 := cell_below hbA hcx
      obtain ⟨_, _, b0, b1, b2, b3, b4⟩ := id hbx2
      clear c0 c1 c2 c3 c4 k0 k1 k2 k3 k4 k5 k6 hcx hS hbxr hbw hsz hbl hbi
      by_cases h4 : opN k x = 4
      · have hal := argN_lt HRR.out hxl (.inl h4)
        have e4 : (opN k x == 4) = true := by simpa using h4
        have HH4 := Lib.hid h4
        obtain ⟨adk, ek, _, hck⟩ := (hrk.below hbx2.1).mark (j := argN k x) (by rw [markL_len]; exact hal)
        have w1' : (0 : Int) ≤ (argN k x : Int) := by omega
        have w2' : (argN k x : Int) < (k.procs.length : Int) := by omega
        have HEK := Lib.hid ek
        rw [ek]
        clear h4 ek
        by_cases hR : R (argN k x)
        · rw [mkd_markL_pos hal hR] at hck
          have HGO := Lib.hid (show opN k x = 4 → R (argN k x) from fun _ => hR)
          clear hR
          go_wp2_with fail
          rw [← HEK.out]
          clear hck ca0 ca1
          go_region_held3 (fun w' => Below W2.heap.size W2 w' ∧ w'.cell? ⟨w.heap.size, 0, none⟩ = some (.slice v.gA k.globals.length v.gc) ∧ w'.cell? ⟨w.heap.size, 1, none⟩ = some (.slice v.lA k.locks.length v.lc) ∧
                    w'.cell? ⟨w.heap.size, 2, none⟩ = some (.slice v.pA k.procs.length v.pc) ∧ w'.cell? ⟨w.heap.size, 3, none⟩ = some (.slice v.eA k.entry.length v.ec) ∧ w'.cell? ⟨w.heap.size, 4, none⟩ = some (.slice v.iA k.ins.length v.ic) ∧ w'.cell? (ad.add h) = some (.int .i64 x))
            (first | exact ⟨(Below.refl _ _).drew, b0, b1, b2, b3, b4, hcx2⟩ | assumption | (go_split_ands; refine ⟨below_trans' (by assumption) hb1, ?_, ?_, ?_, ?_, ?_, ?_⟩ <;> exact cell_below hb1 (by assumption)))
            (first | (go_at_call 178; go_split_ands; refine (HNX.out x hxl _ (hkf.below (below_trans' hbx2.1 (by assumption)))).mono ?_; rintro e w2 ⟨An, cn, rfl, hon, hb1⟩))
          have hb2 : Below W2.heap.size W2 w2 := below_trans' ((Below.refl _ _).drew) hb1
          have hP := hPW.below hb2
          have hap : Apart (.slice An (nextL k x).length cn) (.slice (some ad) xs.length ct) := fun b h1 h2 => by
            have h3 : W2.heap.size ≤ b := (hon.lt b h1).1
            have h4 := (hPW.todo.lt b h2).2
            omega
          have hon : w2.ownsRow W2.heap.size 3 1 (.slice An (nextL k x).length cn) (nextL k x).length (nv (nextL k x)) := hon
          have hszo : w1.heap.size ≤ W2.heap.size := hPW.grown.size
          clear hPW hcx2 hb1 hb2 b0 b1 b2 b3 b4 hbx2
          have HNE := Lib.hid (show nxR k R x = nextL k x from nxR_go HGO.out)
          have HXN := Lib.hid (fun y (hy : y ∈ nextL k x) => HR.out x y hxl (by rw [HNE.out]; exact hy))
          have HNL := Lib.hid (nextL_len k x)
          generalize hns : nextL k x = ns at hon HXN HNL hap HNE ⊢
          have HNS := Lib.hid (show nxR k R x = ns from HNE.out)
          clear hns
          have hnl2 := HNL.out
          go_wp2_with fail
          obtain ⟨wq, rfl⟩ : ∃ wq : World, wq = wr := ⟨_, rfl⟩
          obtain ⟨go, rfl⟩ : ∃ go : Nat, go = gk := ⟨_, rfl⟩
          go_loopg [8, 12] ns.length (fun l td i wr => ∃ (j : Nat) (xs : List Nat) (ms2 : List Bool), j ≤ ns.length ∧ l = ns.length - j ∧ i = .int .i64 j ∧ h + 1 ≤ xs.length ∧ Spr w1 W.heap.size W.heap.size k.ins.length k.ins.length (nxR k R) (ent k p) ((List.replicate k.ins.length false).set (ent k p) true) go td xs (x :: xs.drop (h + 1)) ms2 wr ∧ (∀ y ∈ ns.take j, mkd ms2 y = true) ∧ wr.ownsRow W2.heap.size 3 1 (.slice An ns.length cn) ns.length (nv ns) ∧ Apart (.slice An ns.length cn) td)
          case atStart => exact ⟨0, xs, ms, by omega, by omega, rfl, hlt, hP, by simp, hon, hap⟩
          case round =>
            clear hP hon hap
            obtain ⟨j, xs, ms2, hj, rfl, rfl, hh2, hP, hall, hon, hap⟩ := hrel
            have HALL := Lib.hid hall
            clear hall
            obtain ⟨A2, c2', rfl⟩ := own_form hP.todo
            by_cases hltj : j < ns.length
            · obtain ⟨adn, rfl, _, hcj⟩ := (own_rd hon).nat hltj
              have hyl := HXN.out ns[j] (List.getElem_mem hltj)
              have hml := hP.len
              have HML := Lib.hid hml
              have hcm := own_at hP.marks (j := ns[j]) hyl (u := .bool (mkd ms2 ns[j])) (by rw [List.getElem?_map, List.getElem?_eq_getElem (by omega), mkd_get (by omega)]; rfl)
              have HY := Lib.hid (show ns[j] ∈ nxR k R x from by rw [HNS.out]; exact List.getElem_mem hltj)
              have HT := Lib.hid (fun P => take_all (P := P) hltj)
              clear hml
              generalize ns[j] = y at *
              have z1 : (0 : Int) ≤ (y : Int) := by omega
              have z2 : (y : Int) < (k.ins.length : Int) := by omega
              cases hmk : mkd ms2 y
              · rw [hmk] at hcm
                have HMK := Lib.hid hmk
                clear hmk
                have hfz := hP.marks.frozenAt y
                obtain ⟨s0, s1, s2⟩ := hP.mark hyl HMK.out (x := x) (List.mem_cons_self ..) HY.out
                have hsz := hP.grown.size
                have hcn := hP.cnt
                have hcj2 := s2.cell hcj (by
                  intro h1
                  rw [block_of_add] at h1
                  have h2 := (hon.lt adn.block rfl).1
                  injection h1 with h1
                  omega)
                have hbl2 : (adn.add j).block ≠ W.heap.size := by
                  rw [block_of_add]
                  have h2 := (hon.lt adn.block rfl).1
                  omega
                go_wp2_with (at_builtin; refine append_int2 rfl _ _ rfl s0 rfl rfl (by simp) (by omega) (by simpa using hsz) ?_; intro A' c' w2 ho2 hg2 hl2)
                go_roundg (ns.length - (j + 1))
                case measure => omega
                case rel =>
                  have hon1 := hon.kept s2 (.inr (by
                    intro h1
                    have := (hon.lt W.heap.size h1).1
                    have := hP.grown.size
                    omega))
                  have hpu := hP.push hyl HMK.out (x := x) (List.mem_cons_self ..) HY.out ho2 hg2
                  rw [List.cons_append, ← List.drop_append_of_le_length hh2] at hpu
                  refine ⟨j + 1, xs ++ [y], ms2.set y true, by omega, rfl, by go_num, by simp; omega, hpu.mono (by omega), HT.out (fun z => mkd (ms2.set y true) z = true) (fun z hz => ?_) ?_, hon1.kept hg2 hap.kept, ?_⟩
                  · rw [mkd_set (by have := HML.out; omega)]
                    split
                    · rfl
                    · exact HALL.out z hz
                  · rw [mkd_set (by have := HML.out; omega), if_pos rfl]
                  · intro b h1 h2
                    rcases hl2 with h3 | h3
                    · rw [h3] at h2; exact hap b h1 h2
                    · rw [h3] at h2
                      have := (hon.lt b h1).2
                      injection h2 with h2
                      simp at h2
                      omega
              · rw [hmk] at hcm
                have HMK := Lib.hid hmk
                clear hmk
                go_wp2_with fail
                go_roundg (ns.length - (j + 1))
                case measure => omega
                case rel => exact ⟨j + 1, xs, ms2, by omega, rfl, by go_num, hh2, hP, HT.out _ HALL.out HMK.out, hon, hap⟩
            · obtain rfl : j = ns.length := by omega
              have hcn := hP.cnt
              go_wp2_with fail
              go_roundg (go - 1)
              case measure => have := hP.pos; omega
              case rel =>
                have h1 := HALL.out
                rw [List.take_length, ← HNS.out] at h1
                exact ⟨h + 1, xs, ms2, by go_num, hh2, hP.done h1⟩
        · rw [mkd_markL_neg hR] at hck
          have hst := nxR_stop HH4.out hR
          have hD := hPW.done (fun y hy => by rw [hst] at hy; simp at hy)
          have hpos := hPW.pos
          clear hst hR
          go_wp2_with fail
          rw [← HEK.out]
          go_roundg (gk - 1)
          case measure => omega
          case rel => exact ⟨h + 1, xs, ms, by go_num, by omega, hD⟩
      · have e4 : (opN k x == 4) = false := by simpa using h4
        have HGO := Lib.hid (show opN k x = 4 → R (argN k x) from fun h => absurd h h4)
        clear h4
        go_wp2_with fail
        clear ca0 ca1
        go_region_held3 (fun w' => Below W2.heap.size W2 w' ∧ w'.cell? ⟨w.heap.size, 0, none⟩ = some (.slice v.gA k.globals.length v.gc) ∧ w'.cell? ⟨w.heap.size, 1, none⟩ = some (.slice v.lA k.locks.length v.lc) ∧
                  w'.cell? ⟨w.heap.size, 2, none⟩ = some (.slice v.pA k.procs.length v.pc) ∧ w'.cell? ⟨w.heap.size, 3, none⟩ = some (.slice v.eA k.entry.length v.ec) ∧ w'.cell? ⟨w.heap.size, 4, none⟩ = some (.slice v.iA k.ins.length v.ic) ∧ w'.cell? (ad.add h) = some (.int .i64 x))
          (first | exact ⟨(Below.refl _ _).drew, b0, b1, b2, b3, b4, hcx2⟩ | assumption | (go_split_ands; refine ⟨below_trans' (by assumption) hb1, ?_, ?_, ?_, ?_, ?_, ?_⟩ <;> exact cell_below hb1 (by assumption)))
          (first | (go_at_call 178; go_split_ands; refine (HNX.out x hxl _ (hkf.below (below_trans' hbx2.1 (by assumption)))).mono ?_; rintro e w2 ⟨An, cn, rfl, hon, hb1⟩))
        have hb2 : Below W2.heap.size W2 w2 := below_trans' ((Below.refl _ _).drew) hb1
        have hP := hPW.below hb2
        have hap : Apart (.slice An (nextL k x).length cn) (.slice (some ad) xs.length ct) := fun b h1 h2 => by
          have h3 : W2.heap.size ≤ b := (hon.lt b h1).1
          have h4 := (hPW.todo.lt b h2).2
          omega
        have hon : w2.ownsRow W2.heap.size 3 1 (.slice An (nextL k x).length cn) (nextL k x).length (nv (nextL k x)) := hon
        have hszo : w1.heap.size ≤ W2.heap.size := hPW.grown.size
        clear hPW hcx2 hb1 hb2 b0 b1 b2 b3 b4 hbx2
        have HNE := Lib.hid (show nxR k R x = nextL k x from nxR_go HGO.out)
        have HXN := Lib.hid (fun y (hy : y ∈ nextL k x) => HR.out x y hxl (by rw [HNE.out]; exact hy))
        have HNL := Lib.hid (nextL_len k x)
        generalize hns : nextL k x = ns at hon HXN HNL hap HNE ⊢
        have HNS := Lib.hid (show nxR k R x = ns from HNE.out)
        clear hns
        have hnl2 := HNL.out
        go_wp2_with fail
        obtain ⟨wq, rfl⟩ : ∃ wq : World, wq = wr := ⟨_, rfl⟩
        obtain ⟨go, rfl⟩ : ∃ go : Nat, go = gk := ⟨_, rfl⟩
        go_loopg [8, 12] ns.length (fun l td i wr => ∃ (j : Nat) (xs : List Nat) (ms2 : List Bool), j ≤ ns.length ∧ l = ns.length - j ∧ i = .int .i64 j ∧ h + 1 ≤ xs.length ∧ Spr w1 W.heap.size W.heap.size k.ins.length k.ins.length (nxR k R) (ent k p) ((List.replicate k.ins.length false).set (ent k p) true) go td xs (x :: xs.drop (h + 1)) ms2 wr ∧ (∀ y ∈ ns.take j, mkd ms2 y = true) ∧ wr.ownsRow W2.heap.size 3 1 (.slice An ns.length cn) ns.length (nv ns) ∧ Apart (.slice An ns.length cn) td)
        case atStart => exact ⟨0, xs, ms, by omega, by omega, rfl, hlt, hP, by simp, hon, hap⟩
        case round =>
          clear hP hon hap
          obtain ⟨j, xs, ms2, hj, rfl, rfl, hh2, hP, hall, hon, hap⟩ := hrel
          have HALL := Lib.hid hall
          clear hall
          obtain ⟨A2, c2', rfl⟩ := own_form hP.todo
          by_cases hltj : j < ns.length
          · obtain ⟨adn, rfl, _, hcj⟩ := (own_rd hon).nat hltj
            have hyl := HXN.out ns[j] (List.getElem_mem hltj)
            have hml := hP.len
            have HML := Lib.hid hml
            have hcm := own_at hP.marks (j := ns[j]) hyl (u := .bool (mkd ms2 ns[j])) (by rw [List.getElem?_map, List.getElem?_eq_getElem (by omega), mkd_get (by omega)]; rfl)
            have HY := Lib.hid (show ns[j] ∈ nxR k R x from by rw [HNS.out]; exact List.getElem_mem hltj)
            have HT := Lib.hid (fun P => take_all (P := P) hltj)
            clear hml
            generalize ns[j] = y at *
            have z1 : (0 : Int) ≤ (y : Int) := by omega
            have z2 : (y : Int) < (k.ins.length : Int) := by omega
            cases hmk : mkd ms2 y
            · rw [hmk] at hcm
              have HMK := Lib.hid hmk
              clear hmk
              have hfz := hP.marks.frozenAt y
              obtain ⟨s0, s1, s2⟩ := hP.mark hyl HMK.out (x := x) (List.mem_cons_self ..) HY.out
              have hsz := hP.grown.size
              have hcn := hP.cnt
              have hcj2 := s2.cell hcj (by
                intro h1
                rw [block_of_add] at h1
                have h2 := (hon.lt adn.block rfl).1
                injection h1 with h1
                omega)
              have hbl2 : (adn.add j).block ≠ W.heap.size := by
                rw [block_of_add]
                have h2 := (hon.lt adn.block rfl).1
                omega
              go_wp2_with (at_builtin; refine append_int2 rfl _ _ rfl s0 rfl rfl (by simp) (by omega) (by simpa using hsz) ?_; intro A' c' w2 ho2 hg2 hl2)
              go_roundg (ns.length - (j + 1))
              case measure => omega
              case rel =>
                have hon1 := hon.kept s2 (.inr (by
                  intro h1
                  have := (hon.lt W.heap.size h1).1
                  have := hP.grown.size
                  omega))
                have hpu := hP.push hyl HMK.out (x := x) (List.mem_cons_self ..) HY.out ho2 hg2
                rw [List.cons_append, ← List.drop_append_of_le_length hh2] at hpu
                refine ⟨j + 1, xs ++ [y], ms2.set y true, by omega, rfl, by go_num, by simp; omega, hpu.mono (by omega), HT.out (fun z => mkd (ms2.set y true) z = true) (fun z hz => ?_) ?_, hon1.kept hg2 hap.kept, ?_⟩
                · rw [mkd_set (by have := HML.out; omega)]
                  split
                  · rfl
                  · exact HALL.out z hz
                · rw [mkd_set (by have := HML.out; omega), if_pos rfl]
                · intro b h1 h2
                  rcases hl2 with h3 | h3
                  · rw [h3] at h2; exact hap b h1 h2
                  · rw [h3] at h2
                    have := (hon.lt b h1).2
                    injection h2 with h2
                    simp at h2
                    omega
            · rw [hmk] at hcm
              have HMK := Lib.hid hmk
              clear hmk
              go_wp2_with fail
              go_roundg (ns.length - (j + 1))
              case measure => omega
              case rel => exact ⟨j + 1, xs, ms2, by omega, rfl, by go_num, hh2, hP, HT.out _ HALL.out HMK.out, hon, hap⟩
          · obtain rfl : j = ns.length := by omega
            have hcn := hP.cnt
            go_wp2_with fail
            go_roundg (go - 1)
            case measure => have := hP.pos; omega
            case rel =>
              have h1 := HALL.out
              rw [List.take_length, ← HNS.out] at h1
              exact ⟨h + 1, xs, ms2, by go_num, hh2, hP.done h1⟩
    · obtain rfl : h = xs.length := by omega
      rw [List.drop_length] at hS
      have e := hS.srch.one hent
      subst e
      go_wp2_with fail
      refine (HEN.out _ (hkf.below hbw)).mono ?_
      rintro e w4 ⟨rfl, hb4⟩
      have hm4 := own_below hS.marks hb4
      have hcm := own_at hm4 (j := fin k p - 1) hfin.1 (u := .bool (mkd (markL k.ins.length (Comes (nxR k R) (ent k p))) (fin k p - 1))) (by rw [List.getElem?_map, List.getElem?_eq_getElem (by rw [markL_len]; exact hfin.1), mkd_get (by rw [markL_len]; exact hfin.1)]; rfl)
      have z1 : (0 : Int) ≤ ((fin k p - 1 : Nat) : Int) := by omega
      have z2 : ((fin k p - 1 : Nat) : Int) < (k.ins.length : Int) := by omega
      generalize hF : fin k p - 1 = F at *
      go_wp2_with fail
      go_ret
      refine ⟨⟨_, rfl, ?_⟩, below_trans' hbw hb4⟩
      rw [mkd_markL_true]
      unfold EndP
      rw [hF]
      exact ⟨fun h => h.2, fun h => ⟨by omega, h⟩⟩
end Go.Proofs.YtkgoajnnkimkaaaGreat
namespace Go.Proofs.YtkgoajnnkimkaaaGreat
open Go.ChangeShapes Go.WideShapes Go.ChangeAt Go.RowKit
theorem endP_mono {k : Cd} {R S : Nat → Prop} (h : ∀ q, R q → S q) {p : Nat} (he : EndP k R p) : EndP k S p := Comes.mono (fun a n hn => nxR_mono h hn) he
/-- Whoever comes to the end is in it. -/
def RetShut (k : Cd) (S : Nat → Prop) : Prop := ∀ p, p < k.procs.length → EndP k S p → S p
/-- It returns. -/
def RetP (k : Cd) (p : Nat) : Prop := ∀ S, RetShut k S → S p
theorem ret_step {k : Cd} {s i : Nat} (h : ∀ q, s.testBit q = true → RetP k q) (hi : i < k.procs.length) (he : EndP k (fun q => s.testBit q = true) i) : ∀ q, (s ||| 2 ^ i).testBit q = true → RetP k q := by
  intro q hq S hS
  rw [Nat.testBit_or, Bool.or_eq_true, Nat.testBit_two_pow] at hq
  rcases hq with hq | hq
  · exact h q hq S hS
  · have e : i = q := of_decide_eq_true hq
    subst e
    exact hS i hi (endP_mono (fun q hq => h q hq S hS) he)
theorem ret_fix {k : Cd} {s : Nat} (hs : s < 2 ^ k.procs.length) (h : ∀ q, s.testBit q = true → RetP k q) (hc : ∀ i, i < k.procs.length → EndP k (fun q => s.testBit q = true) i → s.testBit i = true) : s = setN k.procs.length (RetP k) :=
  eq_setN hs fun q _ => ⟨h q, fun hq => hq _ hc⟩
/-- The set of those that return. -/
noncomputable def retN (k : Cd) : Nat := setN k.procs.length (RetP k)

set_option maxHeartbeats 1000000 in
theorem returns_i {B L : Nat} (v : CV) (k : Cd) (at_ : Int) (w : World) (hk : CodeAt w B v k) (hcb : CdB L k) (hL : L ≤ 1048576) :
    Calls Tryz.prog 61 #[.agg #[.slice v.gA k.globals.length v.gc, .slice v.lA k.locks.length v.lc, .slice v.pA k.procs.length v.pc, .slice v.eA k.entry.length v.ec, .slice v.iA k.ins.length v.ic], .int .i64 at_] w (fun e w' => e = .returned (.bool (procB k at_ (fun p => (retN k).testBit p))) ∧ Below w.heap.size w w') := by
  have hkf := hk.full
  have hbx := codeBox w v k
  have hpl0 := hcb.procs
  have hil0 := hcb.ins
  cases hok : codeOkI k
  · have HW := Lib.hid (fun W (h : CodeAt W w.heap.size v k) => worldOf_no v k W h hcb (by omega) hok)
    have HZ := Lib.hid (show ∀ w', Below w.heap.size w w' → Ending.returned (.bool false) = .returned (.bool (procB k at_ (fun p => (retN k).testBit p))) ∧ Below w.heap.size w w' from fun w' h => ⟨by rw [procB_no (and_no1 hok)], h⟩)
    clear hok hcb hk
    go_enter Tryz.func61, Tryz.ntmps61
    go_wp2_with fail
    generalize w.alloc (.cells #[.slice v.gA k.globals.length v.gc, .slice v.lA k.locks.length v.lc, .slice v.pA k.procs.length v.pc, .slice v.eA k.entry.length v.ec, .slice v.iA k.ins.length v.ic] 28) = W at hbx ⊢
    refine (HW.out _ (hkf.below hbx.1)).mono ?_
    rintro e w1 ⟨rfl, hb1⟩
    go_wp2_with fail
    go_ret
    exact HZ.out _ (below_trans' hbx.1 hb1)
  · have HR := Lib.hid (right_of hok)
    have HW := Lib.hid (fun W (h : CodeAt W w.heap.size v k) => worldOf_yes v k W h hcb (by omega) hok)
    cases hpl : (decide (0 ≤ at_) && decide (at_ < k.procs.length))
    · have HZ := Lib.hid (show ∀ w', Below w.heap.size w w' → Ending.returned (.bool false) = .returned (.bool (procB k at_ (fun p => (retN k).testBit p))) ∧ Below w.heap.size w w' from fun w' h => ⟨by rw [procB_no (and_no2 hpl)], h⟩)
      have HPL := Lib.hid hpl
      clear hok hpl hcb hk
      go_enter Tryz.func61, Tryz.ntmps61
      go_wp2_with fail
      generalize w.alloc (.cells #[.slice v.gA k.globals.length v.gc, .slice v.lA k.locks.length v.lc, .slice v.pA k.procs.length v.pc, .slice v.eA k.entry.length v.ec, .slice v.iA k.ins.length v.ic] 28) = W at hbx ⊢
      refine (HW.out _ (hkf.below hbx.1)).mono ?_
      rintro e w1 ⟨g, rfl, hgl, hW, hb1⟩
      have hbx1 := hbx.to hb1
      obtain ⟨hbw, hsz, c0, c1, c2, c3, c4⟩ := id hbx1
      go_wp2_with fail
      refine (isProc_any g v k _ _ hW.kat (by omega)).mono ?_
      rintro e w2 ⟨rfl, rfl⟩
      have hb2 := Below.refl w1.heap.size w1
      rw [HPL.out]
      go_wp2_with fail
      go_ret
      exact HZ.out _ (below_trans' hbw hb2)
    · obtain ⟨a, rfl, hal⟩ : ∃ a : Nat, at_ = a ∧ a < k.procs.length := by
        simp only [Bool.and_eq_true, decide_eq_true_eq] at hpl
        exact ⟨at_.toNat, by omega, by omega⟩
      have HY := Lib.hid (procB_yes (G := fun p => (retN k).testBit p) hok hal)
      have HPL := Lib.hid hpl
      clear hok hpl hcb hk
      go_enter Tryz.func61, Tryz.ntmps61
      go_wp2_with fail
      generalize w.alloc (.cells #[.slice v.gA k.globals.length v.gc, .slice v.lA k.locks.length v.lc, .slice v.pA k.procs.length v.pc, .slice v.eA k.entry.length v.ec, .slice v.iA k.ins.length v.ic] 28) = W at hbx ⊢
      refine (HW.out _ (hkf.below hbx.1)).mono ?_
      rintro e w1 ⟨g, rfl, hgl, hW, hb1⟩
      have hbx1 := hbx.to hb1
      obtain ⟨hbw, hsz, c0, c1, c2, c3, c4⟩ := id hbx1
      go_wp2_with fail
      refine (isProc_any g v k _ _ hW.kat (by omega)).mono ?_
      rintro e w2 ⟨rfl, rfl⟩
      have hb2 := Below.refl w1.heap.size w1
      rw [HPL.out]
      clear c0 c1 c2 c3 c4
      have hW2 := hW.below hb2
      have hb02 := below_trans' hbw hb2
      have hbx2 := hbx1.to hb2
      clear hbx1 hbw hsz hb2 hb1 hbx
      have hpl := HR.out.procs
      have h256 := pow_le_256 HR.out
      have HHB := Lib.hid (fun s i W (hs : s < 2 ^ k.procs.length) (hi : i < k.procs.length) => hasBit_any s i W (by omega) (by omega))
      have HER := Lib.hid (fun i s W (hb : Below w1.heap.size w1 W) (hi : i < k.procs.length) (hs : s < 2 ^ k.procs.length) => endReached_any g v k i s W HR.out (hW2.code.below hb) (hW2.kat.to hb) hi hs)
      have HST := Lib.hid (fun s i h hi he => ret_step (k := k) (s := s) (i := i) h hi he)
      have HFX := Lib.hid (fun s hs h hc => ret_fix (k := k) (s := s) hs h hc)
      go_wp2_with fail
      go_loopg [7, 8] (2 * (2 ^ k.procs.length - 0) + 1) (fun l sv ag wr => ∃ (s : Nat) (again : Bool), sv = .int .i64 s ∧ ag = .bool again ∧ s < 2 ^ k.procs.length ∧ (∀ q, s.testBit q = true → RetP k q) ∧ (again = false → ∀ i, i < k.procs.length → EndP k (fun q => s.testBit q = true) i → s.testBit i = true) ∧ l = 2 * (2 ^ k.procs.length - s) + (if again then 1 else 0) ∧ Below w1.heap.size w1 wr)
      case atStart => exact ⟨0, true, rfl, rfl, Nat.two_pow_pos _, by simp, by simp, rfl, Below.refl _ _⟩
      case round =>
        obtain ⟨s, again, rfl, rfl, hs, hall, hcl, rfl, hb⟩ := hrel
        have HALL := Lib.hid hall
        have HCL := Lib.hid hcl
        clear hall hcl
        cases again
        · have HH := Lib.hid (HHB.out s a wr hs hal)
          go_wp2_with fail
          refine HH.out.mono ?_
          rintro e w9 ⟨rfl, rfl⟩
          go_wp2_with fail
          go_ret
          refine ⟨ret_bool ?_, below_trans' hb02 hb⟩
          have e := HFX.out s hs HALL.out (HCL.out (by simp))
          rw [HY.out]
          show s.testBit a = (retN k).testBit a
          rw [show retN k = s from e.symm]
        · obtain ⟨_, _, c0, c1, c2, c3, c4⟩ := hbx2.to hb
          go_wp2_with fail
          clear c0 c1 c2 c3 c4
          obtain ⟨wo, rfl⟩ : ∃ wo : World, wo = wr := ⟨_, rfl⟩
          go_loopg [7, 8, 27] k.procs.length (fun l sv ag i wr => ∃ (j t : Nat) (new : Bool), j ≤ k.procs.length ∧ l = k.procs.length - j ∧ i = .int .i64 j ∧ sv = .int .i64 t ∧ ag = .bool new ∧ t < 2 ^ k.procs.length ∧ (∀ q, t.testBit q = true → RetP k q) ∧ (new = false → t = s ∧ ∀ i, i < j → EndP k (fun q => s.testBit q = true) i → s.testBit i = true) ∧ (new = true → s < t) ∧ Below w1.heap.size w1 wr)
          case atStart => exact ⟨0, s, false, by omega, by omega, rfl, rfl, rfl, hs, HALL.out, fun _ => ⟨rfl, fun i hi => by omega⟩, by simp, hb⟩
          case round =>
            clear hb
            obtain ⟨j, t, new, hj, rfl, rfl, rfl, rfl, ht, hall, hno, hyes, hb⟩ := hrel
            have HA := Lib.hid hall
            have HN := Lib.hid hno
            have HYE := Lib.hid hyes
            clear hall hno hyes
            by_cases hlt : j < k.procs.length
            · have HH := Lib.hid (HHB.out t j wr ht hlt)
              cases hbit : t.testBit j
              · rw [hbit] at HH
                have HE := Lib.hid (HER.out j t wr hb hlt ht)
                go_wp2_with fail
                refine HH.out.mono ?_
                rintro e w9 ⟨rfl, rfl⟩
                go_wp2_with fail
                refine HE.out.mono ?_
                rintro e w9 ⟨⟨r, rfl, hr9⟩, hb9⟩
                have HR9 := Lib.hid hr9
                clear hr9
                cases r
                · go_wp2_with fail
                  go_roundg (k.procs.length - (j + 1))
                  case measure => omega
                  case rel =>
                    refine ⟨j + 1, t, new, by omega, rfl, by go_num, rfl, rfl, ht, HA.out, fun h => ⟨(HN.out h).1, fun i hi he => ?_⟩, HYE.out, below_trans' hb hb9⟩
                    rcases Nat.lt_or_ge i j with h1 | h1
                    · exact (HN.out h).2 i h1 he
                    · have e : i = j := by omega
                      subst e
                      have := HR9.out.2 (by rw [(HN.out h).1]; exact he)
                      simp at this
                · have hj2 : 2 ^ j < 2 ^ k.procs.length := Nat.pow_lt_pow_right (by omega) hlt
                  have HSH := Lib.hid (show bits .or .i64 (t : Int) (wrap64 ((2 : Int) ^ j)) = ((t ||| 2 ^ j : Nat) : Int) from by rw [shl_one _ (by omega), i64_or_nat _ _ (by omega) (by omega)])
                  have hol : t ||| 2 ^ j < 2 ^ k.procs.length := Nat.or_lt_two_pow ht hj2
                  have hlt3 : t < t ||| 2 ^ j := by
                    rcases Nat.lt_or_ge t (t ||| 2 ^ j) with h | h
                    · exact h
                    · have h2 : t ≤ t ||| 2 ^ j := Nat.left_le_or
                      have h3 : t ||| 2 ^ j = t := by omega
                      have h4 := congrArg (fun n => n.testBit j) h3
                      simp [hbit] at h4
                  have hst : s ≤ t := by
                    cases new
                    · have := (HN.out rfl).1; omega
                    · have := HYE.out rfl; omega
                  clear hbit
                  go_wp2_with fail
                  go_roundg (k.procs.length - (j + 1))
                  case measure => omega
                  case rel => exact ⟨j + 1, t ||| 2 ^ j, true, by omega, rfl, by go_num, by rw [HSH.out], rfl, hol, HST.out t j HA.out hlt (HR9.out.1 (by simp)), fun h => by simp at h, fun _ => by omega, below_trans' hb hb9⟩
              · rw [hbit] at HH
                have HBIT := Lib.hid hbit
                clear hbit
                go_wp2_with fail
                refine HH.out.mono ?_
                rintro e w9 ⟨rfl, rfl⟩
                go_wp2_with fail
                go_roundg (k.procs.length - (j + 1))
                case measure => omega
                case rel =>
                  refine ⟨j + 1, t, new, by omega, rfl, by go_num, rfl, rfl, ht, HA.out, fun h => ⟨(HN.out h).1, fun i hi he => ?_⟩, HYE.out, hb⟩
                  rcases Nat.lt_or_ge i j with h1 | h1
                  · exact (HN.out h).2 i h1 he
                  · have e : i = j := by omega
                    subst e
                    rw [← (HN.out h).1]
                    exact HBIT.out
            · obtain rfl : j = k.procs.length := by omega
              go_wp2_with fail
              go_roundg (2 * (2 ^ k.procs.length - t) + (if new then 1 else 0))
              case measure =>
                cases new
                · have := (HN.out rfl).1; subst this; simp
                · have := HYE.out rfl; simp; omega
              case rel => exact ⟨t, new, rfl, rfl, ht, HA.out, fun h => by have h2 := HN.out h; rw [h2.1]; exact h2.2, rfl, hb⟩

theorem ret_set {n t j : Nat} (hj : j < n) : (markL n (fun q => t.testBit q = true)).set j true = markL n (fun q => (t ||| 2 ^ j).testBit q = true) := by
  refine eq_markL (by rw [List.length_set, markL_len]) fun b hb => ?_
  rw [mkd_set (by rw [markL_len]; exact hj), Nat.testBit_or, Nat.testBit_two_pow]
  by_cases e : j = b
  · simp [e]
  · rw [if_neg e, mkd_markL_true]
    simp [e, hb]
theorem ret_zero (n : Nat) : markL n (fun q => (0 : Nat).testBit q = true) = List.replicate n false := by
  refine (eq_markL (by simp) fun b _ => ?_).symm
  rw [mkd_replicate]
  simp

set_option maxHeartbeats 2000000 in
theorem l10Returns_any {B L : Nat} (v : CV) (k : Cd) (w : World) (hr : Right k) (hk : CodeAt w B v k) (hcb : CdB L k) (hL : L ≤ 1048576) :
    Calls Tryz.prog 133 #[.agg #[.slice v.gA k.globals.length v.gc, .slice v.lA k.locks.length v.lc, .slice v.pA k.procs.length v.pc, .slice v.eA k.entry.length v.ec, .slice v.iA k.ins.length v.ic]] w (NewMarks w (markL k.procs.length (fun q => (retN k).testBit q = true))) := by
  have hkf := hk.full
  have hbx := codeBox w v k
  have hpl := hr.procs
  have h256 := pow_le_256 hr
  have HCO := Lib.hid (fun i (R : Nat → Prop) A c W B' (hi : i < k.procs.length) (h : CodeAt W w.heap.size v k) (h2 : Rd W B' A ((markL k.procs.length R).map bv)) => l10Comes_any v k i R A c W hr h hcb hL hi h2)
  have HST := Lib.hid (fun s i h hi he => ret_step (k := k) (s := s) (i := i) h hi he)
  have HFX := Lib.hid (fun s hs h hc => ret_fix (k := k) (s := s) hs h hc)
  clear hk hr hcb
  go_enter Tryz.func133, Tryz.ntmps133
  go_wp2_with (at_make; generalize w.alloc (.cells #[.slice v.gA k.globals.length v.gc, .slice v.lA k.locks.length v.lc, .slice v.pA k.procs.length v.pc, .slice v.eA k.entry.length v.ec, .slice v.iA k.ins.length v.ic] 28) = W at hbx ⊢; refine make_bools _ rfl _ _ rfl k.procs.length rfl rfl (by omega) ?_; intro w1 hown hb1)
  rw [← ret_zero] at hown
  go_loopg [4] (2 * (2 ^ k.procs.length - 0) + 1) (fun l ag wr => ∃ (s : Nat) (again : Bool), ag = .bool again ∧ s < 2 ^ k.procs.length ∧ (∀ q, s.testBit q = true → RetP k q) ∧ (again = false → ∀ i, i < k.procs.length → EndP k (fun q => s.testBit q = true) i → s.testBit i = true) ∧ l = 2 * (2 ^ k.procs.length - s) + (if again then 1 else 0) ∧ Below W.heap.size W wr ∧ wr.ownsRow W.heap.size 4 1 (.slice (some ⟨W.heap.size, 0, none⟩) k.procs.length k.procs.length) k.procs.length ((markL k.procs.length (fun q => s.testBit q = true)).map bv))
  case atStart => exact ⟨0, true, rfl, Nat.two_pow_pos _, by simp, by simp, rfl, hb1, hown⟩
  case round =>
    clear hown hb1
    obtain ⟨s, again, rfl, hs, hall, hcl, rfl, hb, ho⟩ := hrel
    have HALL := Lib.hid hall
    have HCL := Lib.hid hcl
    clear hall hcl
    cases again
    · go_wp2_with fail
      go_ret
      have e := HFX.out s hs HALL.out (HCL.out (by simp))
      have e2 : retN k = s := e.symm
      rw [e2]
      exact newMarks_of (own_mono ho hbx.1.size) (below_trans' hbx.1 hb)
    · go_wp2_with fail
      obtain ⟨wo, rfl⟩ : ∃ wo : World, wo = wr := ⟨_, rfl⟩
      go_loopg [4, 5] k.procs.length (fun l ag i wr => ∃ (j t : Nat) (new : Bool), j ≤ k.procs.length ∧ l = k.procs.length - j ∧ i = .int .i64 j ∧ ag = .bool new ∧ t < 2 ^ k.procs.length ∧ (∀ q, t.testBit q = true → RetP k q) ∧ (new = false → t = s ∧ ∀ i, i < j → EndP k (fun q => s.testBit q = true) i → s.testBit i = true) ∧ (new = true → s < t) ∧ Below W.heap.size W wr ∧ wr.ownsRow W.heap.size 4 1 (.slice (some ⟨W.heap.size, 0, none⟩) k.procs.length k.procs.length) k.procs.length ((markL k.procs.length (fun q => t.testBit q = true)).map bv))
      case atStart => exact ⟨0, s, false, by omega, by omega, rfl, rfl, hs, HALL.out, fun _ => ⟨rfl, fun i hi => by omega⟩, by simp, hb, ho⟩
      case round =>
        clear hb ho
        obtain ⟨j, t, new, hj, rfl, rfl, rfl, ht, hall, hno, hyes, hb, ho⟩ := hrel
        have HA := Lib.hid hall
        have HN := Lib.hid hno
        have HYE := Lib.hid hyes
        clear hall hno hyes
        have hbxr := hbx.to hb
        obtain ⟨_, _, c0, c1, c2, c3, c4⟩ := id hbxr
        by_cases hlt : j < k.procs.length
        · have hcj := own_at ho (j := j) hlt (u := .bool (mkd (markL k.procs.length (fun q => t.testBit q = true)) j)) (by rw [List.getElem?_map, List.getElem?_eq_getElem (by rw [markL_len]; exact hlt), mkd_get (by rw [markL_len]; exact hlt)]; rfl)
          have y1 : (0 : Int) ≤ (j : Int) := by omega
          have y2 : (j : Int) < (k.procs.length : Int) := by omega
          cases hbit : t.testBit j
          · rw [mkd_markL_neg (by rw [hbit]; simp)] at hcj
            have HE := Lib.hid (HCO.out j (fun q => t.testBit q = true) (some ⟨W.heap.size, 0, none⟩) k.procs.length wr _ hlt (hkf.below hbxr.1) (own_rd ho))
            go_wp2_with fail
            refine HE.out.mono ?_
            rintro e w9 ⟨⟨r, rfl, hr9⟩, hb9⟩
            have HR9 := Lib.hid hr9
            clear hr9 hcj
            have ho9 := own_below ho hb9
            have hbb := below_trans' hb hb9
            cases r
            · go_wp2_with fail
              go_roundg (k.procs.length - (j + 1))
              case measure => omega
              case rel =>
                refine ⟨j + 1, t, new, by omega, rfl, by go_num, rfl, ht, HA.out, fun h => ⟨(HN.out h).1, fun i hi he => ?_⟩, HYE.out, hbb, ho9⟩
                rcases Nat.lt_or_ge i j with h1 | h1
                · exact (HN.out h).2 i h1 he
                · have e : i = j := by omega
                  subst e
                  have := HR9.out.2 (by rw [(HN.out h).1]; exact he)
                  simp at this
            · have hj2 : 2 ^ j < 2 ^ k.procs.length := Nat.pow_lt_pow_right (by omega) hlt
              have hol : t ||| 2 ^ j < 2 ^ k.procs.length := Nat.or_lt_two_pow ht hj2
              have hlt3 : t < t ||| 2 ^ j := by
                rcases Nat.lt_or_ge t (t ||| 2 ^ j) with h | h
                · exact h
                · have h2 : t ≤ t ||| 2 ^ j := Nat.left_le_or
                  have h3 : t ||| 2 ^ j = t := by omega
                  have h4 := congrArg (fun n => n.testBit j) h3
                  simp [hbit] at h4
              have hst : s ≤ t := by
                cases new
                · have := (HN.out rfl).1; omega
                · have := HYE.out rfl; omega
              have fz := ho9.frozenAt j
              obtain ⟨u, hu⟩ := own_has ho9 (j := j) (by omega)
              obtain ⟨s1, s2⟩ := ho9.stored j (bv true)
              rw [bv_set, ret_set hlt] at s1
              have HS1 := Lib.hid s1
              have HB3 := Lib.hid (show Below W.heap.size W (w9.setCell ⟨W.heap.size, j, none⟩ (bv true)) from hbb.setCell (Nat.le_refl _) _)
              clear hbit s1 s2
              go_wp2_with fail
              go_roundg (k.procs.length - (j + 1))
              case measure => omega
              case rel => exact ⟨j + 1, t ||| 2 ^ j, true, by omega, rfl, by go_num, rfl, hol, HST.out t j HA.out hlt (HR9.out.1 (by simp)), fun h => by simp at h, fun _ => by omega, HB3.out, HS1.out⟩
          · rw [mkd_markL_pos hlt hbit] at hcj
            have HBIT := Lib.hid hbit
            clear hbit
            go_wp2_with fail
            go_roundg (k.procs.length - (j + 1))
            case measure => omega
            case rel =>
              refine ⟨j + 1, t, new, by omega, rfl, by go_num, rfl, ht, HA.out, fun h => ⟨(HN.out h).1, fun i hi he => ?_⟩, HYE.out, hb, ho⟩
              rcases Nat.lt_or_ge i j with h1 | h1
              · exact (HN.out h).2 i h1 he
              · have e : i = j := by omega
                subst e
                rw [← (HN.out h).1]
                exact HBIT.out
        · obtain rfl : j = k.procs.length := by omega
          go_wp2_with fail
          go_roundg (2 * (2 ^ k.procs.length - t) + (if new then 1 else 0))
          case measure =>
            cases new
            · have := (HN.out rfl).1; subst this; simp
            · have := HYE.out rfl; simp; omega
          case rel => exact ⟨t, new, rfl, ht, HA.out, fun h => by have h2 := HN.out h; rw [h2.1]; exact h2.2, rfl, hb, ho⟩

set_option maxHeartbeats 1000000 in
theorem returns_s {B L : Nat} (v : CV) (k : Cd) (at_ : Int) (w : World) (hk : CodeAt w B v k) (hcb : CdB L k) (hL : L ≤ 1048576) :
    Calls Tryz.prog 62 #[.agg #[.slice v.gA k.globals.length v.gc, .slice v.lA k.locks.length v.lc, .slice v.pA k.procs.length v.pc, .slice v.eA k.entry.length v.ec, .slice v.iA k.ins.length v.ic], .int .i64 at_] w (fun e w' => e = .returned (.bool (procB k at_ (fun p => (retN k).testBit p))) ∧ Below w.heap.size w w') := by
  have hkf := hk.full
  have hbx := codeBox w v k
  have hpl0 := hcb.procs
  have hil0 := hcb.ins
  have HG := Lib.hid (fun W (h : CodeAt W w.heap.size v k) => l10Ok_any v k at_ W h hcb (by omega))
  cases hok : (codeOkI k && (decide (0 ≤ at_) && decide (at_ < k.procs.length)))
  · have HZ := Lib.hid (show ∀ w', Below w.heap.size w w' → Ending.returned (.bool false) = .returned (.bool (procB k at_ (fun p => (retN k).testBit p))) ∧ Below w.heap.size w w' from fun w' h => ⟨by rw [procB_no hok], h⟩)
    rw [hok] at HG
    clear hok hcb hk
    go_enter Tryz.func62, Tryz.ntmps62
    go_wp2_with fail
    generalize w.alloc (.cells #[.slice v.gA k.globals.length v.gc, .slice v.lA k.locks.length v.lc, .slice v.pA k.procs.length v.pc, .slice v.eA k.entry.length v.ec, .slice v.iA k.ins.length v.ic] 28) = W at hbx ⊢
    refine (HG.out _ (hkf.below hbx.1)).mono ?_
    rintro e w1 ⟨rfl, hb1⟩
    go_wp2_with fail
    go_ret
    exact HZ.out _ (below_trans' hbx.1 hb1)
  · rw [hok] at HG
    obtain ⟨hok1, a, rfl, hal⟩ : codeOkI k = true ∧ ∃ a : Nat, at_ = a ∧ a < k.procs.length := by
      simp only [Bool.and_eq_true, decide_eq_true_eq] at hok
      exact ⟨hok.1, at_.toNat, by omega, by omega⟩
    have HR := Lib.hid (right_of hok1)
    have HY := Lib.hid (procB_yes (G := fun p => (retN k).testBit p) hok1 hal)
    have HCB := Lib.hid hcb
    clear hok hok1 hcb hk
    go_enter Tryz.func62, Tryz.ntmps62
    go_wp2_with fail
    generalize w.alloc (.cells #[.slice v.gA k.globals.length v.gc, .slice v.lA k.locks.length v.lc, .slice v.pA k.procs.length v.pc, .slice v.eA k.entry.length v.ec, .slice v.iA k.ins.length v.ic] 28) = W at hbx ⊢
    refine (HG.out _ (hkf.below hbx.1)).mono ?_
    rintro e w2 ⟨rfl, hb2⟩
    have hbx2 := hbx.to hb2
    clear hbx hb2
    have hk2 := hkf.below hbx2.1
    have hb02 := hbx2.1
    obtain ⟨_, _, c0, c1, c2, c3, c4⟩ := id hbx2
    have HC := Lib.hid (l10Returns_any v k w2 HR.out hk2 HCB.out hL)
    go_wp2_with fail
    refine HC.out.mono ?_
    rintro e w3 ⟨Am, cm, rfl, hom, hb3⟩
    have hpl := HR.out.procs
    have z1 : (0 : Int) ≤ (a : Int) := by omega
    have z2 : (a : Int) < (k.procs.length : Int) := by omega
    obtain ⟨ad, rfl, _, hc⟩ := (own_rd hom).mark (j := a) (by rw [markL_len]; exact hal)
    rw [markL_len] at hom ⊢
    have HM := Lib.hid (show mkd (markL k.procs.length (fun q => (retN k).testBit q = true)) a = (retN k).testBit a from by
      rw [Bool.eq_iff_iff, mkd_markL_true]
      exact ⟨fun h => h.2, fun h => ⟨hal, h⟩⟩)
    go_wp2_with fail
    go_ret
    exact ⟨ret_bool (by rw [HY.out, HM.out]), below_trans' hb02 hb3⟩
end Go.Proofs.YtkgoajnnkimkaaaGreat
