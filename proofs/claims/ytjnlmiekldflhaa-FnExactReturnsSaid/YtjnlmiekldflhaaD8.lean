/- Contracts of endReached and l10Comes: is the end reached, where only some procedures return? -/
import Derived.Test.YtjnlmiekldflhaaD5
set_option linter.unusedSimpArgs false
set_option linter.unusedVariables false
namespace Go.Proofs.Ytjnlmiekldflhaa
open Go.ChangeShapes Go.WideShapes Go.ChangeAt Go.RowKit
open Classical in
/-- What comes next, where the procedures of R alone return. -/
noncomputable def nxR (k : Cd) (R : Nat → Prop) (a : Nat) : List Nat := if opN k a = 4 ∧ ¬ R (argN k a) then [] else nextL k a
theorem nxR_sub {k : Cd} {R : Nat → Prop} {a n : Nat} (h : n ∈ nxR k R a) : n ∈ nextL k a := by
  unfold nxR at h
  split at h
  · simp at h
  · exact h
theorem nxR_stop {k : Cd} {R : Nat → Prop} {a : Nat} (h1 : opN k a = 4) (h2 : ¬ R (argN k a)) : nxR k R a = [] := by rw [nxR, if_pos ⟨h1, h2⟩]
theorem nxR_go {k : Cd} {R : Nat → Prop} {a : Nat} (h : opN k a = 4 → R (argN k a)) : nxR k R a = nextL k a := by rw [nxR, if_neg fun h1 => h1.2 (h h1.1)]
theorem nxR_mono {k : Cd} {R S : Nat → Prop} (h : ∀ q, R q → S q) {a n : Nat} (hn : n ∈ nxR k R a) : n ∈ nxR k S a := by
  by_cases h1 : opN k a = 4 ∧ ¬ R (argN k a)
  · rw [nxR_stop h1.1 h1.2] at hn
    simp at hn
  · have h2 : opN k a = 4 → R (argN k a) := fun h3 => Classical.byContradiction fun h4 => h1 ⟨h3, h4⟩
    rw [nxR_go h2] at hn
    rw [nxR_go fun h3 => h _ (h2 h3)]
    exact hn
theorem Comes.mono {nx ny : Nat → List Nat} (h : ∀ a n, n ∈ nx a → n ∈ ny a) {a b : Nat} (hc : Comes nx a b) : Comes ny a b :=
  hc.inv (P := fun b => Comes ny a b) (.refl _ _) fun x hx n hn => hx.step (h x n hn)
/-- The end of p is come to, where the procedures of R alone return. -/
def EndP (k : Cd) (R : Nat → Prop) (p : Nat) : Prop := Comes (nxR k R) (ent k p) (fin k p - 1)
theorem nxR_in {k : Cd} (hr : Right k) {R : Nat → Prop} {x n : Nat} (hx : x < k.ins.length) (hn : n ∈ nxR k R x) : n < k.ins.length := (nextL_in hr hx (nxR_sub hn)).1
theorem endP_of {k : Cd} (hr : Right k) {R : Nat → Prop} {p x : Nat} (hp : p < k.procs.length) (hx : Comes (nxR k R) (ent k p) x) (h9 : opN k x = 9) : EndP k R p := by
  have h1 := comes_in hr (ent_lt hr hp) (hx.mono fun a n h => nxR_sub h)
  rw [procN_ent hr hp] at h1
  have h2 := (hr.stop x h1.1).1 (by rw [opN_eq h1.1]; exact h9)
  rw [h1.2] at h2
  have e : fin k p - 1 = x := by omega
  unfold EndP
  rw [e]
  exact hx
theorem fin_op {k : Cd} (hr : Right k) {p : Nat} (hp : p < k.procs.length) : fin k p - 1 < k.ins.length ∧ opN k (fin k p - 1) = 9 := by
  have h1 := hr.lt p hp
  have h2 : fin k p - 1 < k.ins.length := by omega
  refine ⟨h2, ?_⟩
  rw [← opN_eq h2]
  refine (hr.stop _ h2).2 ?_
  rw [procN_fin hr hp]
  omega
theorem endP_not {k : Cd} (hr : Right k) {R : Nat → Prop} {p n : Nat} (hp : p < k.procs.length) {ms : List Bool} (h : ms = markL k.ins.length (Comes (nxR k R) (ent k p))) (h9 : ∀ b, mkd ms b = true → opN k b ≠ 9) : ¬ EndP k R p := by
  intro he
  have h1 := fin_op hr hp
  refine h9 (fin k p - 1) ?_ h1.2
  rw [h]
  exact mkd_markL_true.2 ⟨h1.1, he⟩

set_option maxRecDepth 100000 in
set_option maxHeartbeats 2000000 in
theorem endReached_any {B : Nat} (g : Nat) (v : CV) (k : Cd) (p s : Nat) (w : World) (hr : Right k) (hk : CodeAt w B v k) (hg : KAt w g v k) (hp : p < k.procs.length) (hs : s < 2 ^ k.procs.length) :
    Calls Try.prog 82 #[.pointer (some ⟨g, 0, none⟩), .int .i64 p, .int .i64 s] w fun e w' => (∃ r : Bool, e = .returned (.bool r) ∧ (r = true ↔ EndP k (fun q => s.testBit q = true) p)) ∧ Below w.heap.size w w' := by
  have hkf := hk.full
  have hins := hr.ins
  have hpl := hr.procs
  have h256 := pow_le_256 hr
  have hent := ent_lt hr hp
  have hgl : g < w.heap.size := World.block_lt_of_cell? w _ hg.1
  obtain ⟨ade, ee, hbe, hce⟩ := entry_cell hr hkf hp
  have hel : p < k.entry.length := by have := hr.entry; omega
  have HEE := Lib.hid ee
  have HR := Lib.hid (fun x n (hx : x < k.ins.length) (hn : n ∈ nxR k (fun q => s.testBit q = true) x) => nxR_in hr hx hn)
  have HNX := Lib.hid (fun x (hx : x < k.ins.length) W (h : Below w.heap.size w W) => nextIn_any g v k x W hr (hkf.below h) (hg.to h) hx)
  have HRR := Lib.hid hr
  have HYES := Lib.hid (fun x hx h9 => endP_of (R := fun q => s.testBit q = true) (x := x) hr hp hx h9)
  have HNO := Lib.hid (fun ms h h9 => endP_not (R := fun q => s.testBit q = true) (n := 0) (ms := ms) hr hp h h9)
  have hgK := hg
  obtain ⟨c0, c1, c2, c3, c4⟩ := hg
  rw [ee] at c3
  have y1 : (0 : Int) ≤ (p : Int) := by omega
  have y2 : (p : Int) < (k.entry.length : Int) := by omega
  have x1 : (0 : Int) ≤ (ent k p : Int) := by omega
  have x2 : (ent k p : Int) < (k.ins.length : Int) := by omega
  clear hk hr ee
  go_enter Try.func82, Try.ntmps82
  go_wp2_with (at_make; refine make_bools _ rfl _ _ rfl k.ins.length rfl rfl (by omega) ?_; intro w1 hown hb1; have fz := hown.frozenAt (ent k p); obtain ⟨u, hu⟩ := own_has hown (j := ent k p) (by omega); have hce1 := cell_below hb1 hce; have c31 := cell_below hb1 c3; have hbl1 : (ade.add p).block ≠ w.heap.size := (by rw [block_of_add]; omega); have hg1 : g ≠ w.heap.size := (by omega); have hs0 := own_stored hown (ent k p); have hce2 := (hs0.2).cell hce1 (by simpa using hbl1); have c32 := (hs0.2).cell c31 (by simpa using hg1))
  have hS : Spr w1 w.heap.size w.heap.size k.ins.length k.ins.length (nxR k (fun q => s.testBit q = true)) (ent k p) ((List.replicate k.ins.length false).set (ent k p) true) (2 * k.ins.length + 1) (.slice (some ⟨w1.heap.size, 0, none⟩) 1 1) [ent k p] ([ent k p]) ((List.replicate k.ins.length false).set (ent k p) true) ((w1.setCell ⟨w.heap.size, ent k p, none⟩ (.bool true)).alloc (.cells #[.int .i64 (ent k p)] 3)) := by
    have hun := unm_le ((List.replicate k.ins.length false).set (ent k p) true)
    simp only [List.length_set, List.length_replicate] at hun
    refine ⟨?_, .start (by simpa using hent), hs0.1.alloc _, hs0.2.trans (World.grownBy_alloc _ _ _), (own_lt hown).2, by simp; omega, by simp; omega⟩
    have := World.ownsRow_lit (base := w1.heap.size) (e := 3) (size := 1) (w1.setCell ⟨w.heap.size, ent k p, none⟩ (.bool true)) #[.int .i64 (ent k p)] 1 (by simp) (by unfold maxLen; omega) (by simp)
    simpa [nv, natI, iv] using this
  have h90 : ∀ b, mkd ((List.replicate k.ins.length false).set (ent k p) true) b = true → b ∈ [ent k p] ∨ opN k b ≠ 9 := fun b hb => by
    rw [mkd_set (by simpa using hent), mkd_replicate] at hb
    by_cases e : ent k p = b
    · exact .inl (by simp [e])
    · rw [if_neg e] at hb; simp at hb
  have hw1 := (own_lt hown).2
  have HBW := Lib.hid (show ∀ W, w1.grownBy W (some w.heap.size) → Below w.heap.size w W from fun W h => hb1.trans (below_grown h (by omega) (Nat.le_refl _)))
  clear hown fz hu hce1 c31 hs0 hce2 c32 c0 c1 c2 c3 c4 hce hb1 hbl1 hg1
  go_loopg [8] (2 * k.ins.length + 1) (fun m td wr => ∃ (xs : List Nat) (ms' : List Bool), Spr w1 w.heap.size w.heap.size k.ins.length k.ins.length (nxR k (fun q => s.testBit q = true)) (ent k p) ((List.replicate k.ins.length false).set (ent k p) true) m td xs (xs) ms' wr ∧ (∀ b, mkd ms' b = true → b ∈ xs ∨ opN k b ≠ 9))
  case atStart => exact ⟨_, _, hS, h90⟩
  case round =>
    clear hS h90
    obtain ⟨xs, ms', hS, h9⟩ := hrel
    obtain ⟨A, ct, rfl⟩ := own_form hS.todo
    rcases nil_or_snoc xs with rfl | ⟨ys, x, rfl⟩
    · go_wp2_with fail
      go_ret
      have e := hS.srch.one hent
      refine ⟨⟨false, rfl, ?_⟩, HBW.out _ hS.grown⟩
      simp only [Bool.false_eq_true, false_iff]
      exact HNO.out ms' e fun b hb => (h9 b hb).resolve_left (by simp)
    · have e1 : (ys ++ [x]).length = ys.length + 1 := by simp
      have hown := hS.todo
      rw [e1] at hown ⊢
      clear e1
      obtain ⟨gt, rfl⟩ := own_some hown (by omega)
      have hc := own_at hown (j := ys.length) (by omega) (u := .int .i64 x) (by simp [nv, iv, natI])
      have hyl : ys.length ≤ 1501 := by have := hS.cnt; simp at this; omega
      have hcap := own_cap hown
      have hcap1 : (ys.length : Int) ≤ (ct : Int) := by omega
      have htd := hS.srch.td x (by simp)
      have hxl : x < k.ins.length := by have := htd.1; rw [hS.len] at this; exact this
      have HTD := Lib.hid htd.2
      have hPP := hS.pop
      have hbw := HBW.out _ hS.grown
      obtain ⟨d0, d1, d2, d3, d4⟩ := hgK.to hbw
      obtain ⟨ai, A', c', eA, hbi, k0, k1, k2, k3, k4, k5, k6, _⟩ := (hkf.below hbw).full.i.get hxl
      rw [eA] at d4
      rw [opN_eq hxl] at k0
      rw [argN_eq HRR.out hxl] at k1
      have z1 : (0 : Int) ≤ (x : Int) := by omega
      have z2 : (x : Int) < (k.ins.length : Int) := by omega
      have hbA := below_alloc0 wr (.cells #[.int .i64 (opN k x), .int .i64 (argN k x), .int .i64 k.ins[x].term.kind, .int .i64 k.ins[x].term.num, .string k.ins[x].term.name, .slice A' k.ins[x].term.kids.length c', .int .i64 k.ins[x].to] 57)
      have hPW := hPP.below hbA
      have hbwW := below_trans' hbw hbA
      have ca0 := box_cell wr #[.int .i64 (opN k x), .int .i64 (argN k x), .int .i64 k.ins[x].term.kind, .int .i64 k.ins[x].term.num, .string k.ins[x].term.name, .slice A' k.ins[x].term.kids.length c', .int .i64 k.ins[x].to] 57 0 rfl
      have ca1 := box_cell wr #[.int .i64 (opN k x), .int .i64 (argN k x), .int .i64 k.ins[x].term.kind, .int .i64 k.ins[x].term.num, .string k.ins[x].term.name, .slice A' k.ins[x].term.kids.length c', .int .i64 k.ins[x].to] 57 1 rfl
      clear eA hS hown hPP
      by_cases h1 : opN k x = 9
      · have HY := Lib.hid (HYES.out x HTD.out h1)
        rw [h1] at k0
        clear h1 h9 ca0 ca1 hbA hPW hbwW
        go_wp2_with fail
        go_ret
        refine ⟨⟨true, rfl, ?_⟩, below_trans' hbw (below_alloc0 _ _)⟩
        simp only [true_iff]
        exact HY.out
      · have e9 : (opN k x == 9) = false := by simpa using h1
        have h9 : ∀ b, mkd ms' b = true → b ∈ ys ∨ opN k b ≠ 9 := fun b hb => by
          rcases h9 b hb with h | h
          · rcases List.mem_append.1 h with h | h
            · exact .inl h
            · simp at h; subst h; exact .inr h1
          · exact .inr h
        clear h1
        by_cases h4 : opN k x = 4
        · have hal := argN_lt HRR.out hxl (.inl h4)
          have e4 : (opN k x == 4) = true := by simpa using h4
          have HHB := Lib.hid (fun W => hasBit_any s (argN k x) W (by omega) (by omega))
          have H9 := Lib.hid h9
          have HH4 := Lib.hid h4
          clear h9 h4
          go_wp2_with fail
          generalize wr.alloc (.cells #[.int .i64 (opN k x), .int .i64 (argN k x), .int .i64 k.ins[x].term.kind, .int .i64 k.ins[x].term.num, .string k.ins[x].term.name, .slice A' k.ins[x].term.kids.length c', .int .i64 k.ins[x].to] 57) = W at hbA hPW hbwW ca0 ca1 ⊢
          refine (HHB.out _).mono ?_
          rintro e w9 ⟨rfl, rfl⟩
          cases hbit : s.testBit (argN k x)
          · have hst := nxR_stop (R := fun q => s.testBit q = true) HH4.out (by rw [hbit]; simp)
            have hD := hPW.done (fun y hy => by rw [hst] at hy; simp at hy)
            have hpos := hPW.pos
            clear hst hbit
            go_wp2_with fail
            go_roundg (gk - 1)
            case measure => omega
            case rel => exact ⟨ys, ms', hD, H9.out⟩
          · have hgo : opN k x = 4 → s.testBit (argN k x) = true := fun _ => hbit
            have HGO := Lib.hid hgo
            clear hgo hbit d0 d1 d2 d3 d4 k0 k1 k2 k3 k4 k5 k6
            go_wp2_with fail
            have hgo := HGO.out
            have h9 := H9.out
            clear H9 HGO
            refine (HNX.out x hxl _ hbwW).mono ?_
            rintro e w3 ⟨An, cn, rfl, hon, hb3⟩
            have hP := hPW.below hb3
            have hap : Apart (.slice An (nextL k x).length cn) (.slice (some ⟨gt, 0, none⟩) ys.length ct) := fun b h1 h2 => by
              have h3 := (hon.lt b h1).1
              have h4 := (hPW.todo.lt b h2).2
              omega
            have hszo : w1.heap.size ≤ W.heap.size := hPW.grown.size
            have HNE := Lib.hid (show nxR k (fun q => s.testBit q = true) x = nextL k x from nxR_go (R := fun q => s.testBit q = true) hgo)
            have HXN := Lib.hid (fun y (hy : y ∈ nextL k x) => HR.out x y hxl (by rw [HNE.out]; exact hy))
            have HNL := Lib.hid (nextL_len k x)
            have H9 := Lib.hid h9
            clear h9
            generalize hns : nextL k x = ns at hon HXN HNL hap HNE ⊢
            have HNS := Lib.hid (show nxR k (fun q => s.testBit q = true) x = ns from HNE.out)
            clear hns
            have hnl2 := HNL.out
            go_wp2_with fail
            obtain ⟨wo, rfl⟩ : ∃ wo : World, wo = wr := ⟨_, rfl⟩
            obtain ⟨go, rfl⟩ : ∃ go : Nat, go = gk := ⟨_, rfl⟩
            go_loopg [8, 78] ns.length (fun l td i wr => ∃ (j : Nat) (xs : List Nat) (ms2 : List Bool), j ≤ ns.length ∧ l = ns.length - j ∧ i = .int .i64 j ∧ Spr w1 w.heap.size w.heap.size k.ins.length k.ins.length (nxR k (fun q => s.testBit q = true)) (ent k p) ((List.replicate k.ins.length false).set (ent k p) true) go td xs (x :: xs) ms2 wr ∧ (∀ y ∈ ns.take j, mkd ms2 y = true) ∧ wr.ownsRow W.heap.size 3 1 (.slice An ns.length cn) ns.length (nv ns) ∧ Apart (.slice An ns.length cn) td ∧ (∀ b, mkd ms2 b = true → b ∈ xs ∨ opN k b ≠ 9))
            case atStart => exact ⟨0, ys, ms', by omega, by omega, rfl, hP, by simp, hon, hap, H9.out⟩
            case round =>
              clear hP hon hap
              obtain ⟨j, xs, ms2, hj, rfl, rfl, hP, hall, hon, hap, h9⟩ := hrel
              have HALL := Lib.hid hall
              have H9 := Lib.hid h9
              clear hall h9
              obtain ⟨A2, c2', rfl⟩ := own_form hP.todo
              by_cases hlt : j < ns.length
              · obtain ⟨ad, rfl, _, hcj⟩ := (own_rd hon).nat hlt
                have hyl := HXN.out ns[j] (List.getElem_mem hlt)
                have hml := hP.len
                have HML := Lib.hid hml
                have hcm := own_at hP.marks (j := ns[j]) hyl (u := .bool (mkd ms2 ns[j])) (by rw [List.getElem?_map, List.getElem?_eq_getElem (by omega), mkd_get (by omega)]; rfl)
                have HY := Lib.hid (show ns[j] ∈ nxR k (fun q => s.testBit q = true) x from by rw [HNS.out]; exact List.getElem_mem hlt)
                have HT := Lib.hid (fun P => take_all (P := P) hlt)
                clear hml
                generalize ns[j] = y at *
                have z1 : (0 : Int) ≤ (y : Int) := by omega
                have z2 : (y : Int) < (k.ins.length : Int) := by omega
                cases hmk : mkd ms2 y
                · rw [hmk] at hcm
                  have HMK := Lib.hid hmk
                  clear hmk
                  have hfz := hP.marks.frozenAt y
                  obtain ⟨s0, s1, s2⟩ := hP.mark hyl HMK.out (x := x) (List.mem_cons_self ..) HY.out
                  have hsz := hP.grown.size
                  have hcn := hP.cnt
                  go_wp2_with (at_builtin; refine append_int2 rfl _ _ rfl s0 rfl rfl (by simp) (by omega) (by simpa using hsz) ?_; intro A' c' w2 ho2 hg2 hl2)
                  go_roundg (ns.length - (j + 1))
                  case measure => omega
                  case rel =>
                    have hon1 := hon.kept s2 (.inr (by
                      intro h1
                      have := (hon.lt w.heap.size h1).1
                      have := hP.grown.size
                      omega))
                    have hpu := hP.push hyl HMK.out (x := x) (List.mem_cons_self ..) HY.out ho2 hg2
                    refine ⟨j + 1, xs ++ [y], ms2.set y true, by omega, rfl, by go_num, hpu.mono (by omega), HT.out (fun z => mkd (ms2.set y true) z = true) (fun z hz => ?_) ?_, hon1.kept hg2 hap.kept, ?_, ?_⟩
                    · rw [mkd_set (by have := HML.out; omega)]
                      split
                      · rfl
                      · exact HALL.out z hz
                    · rw [mkd_set (by have := HML.out; omega), if_pos rfl]
                    · intro b h1 h2
                      rcases hl2 with h3 | h3
                      · rw [h3] at h2; exact hap b h1 h2
                      · rw [h3] at h2
                        have := (hon.lt b h1).2
                        injection h2 with h2
                        simp at h2
                        omega
                    · intro b hb
                      rw [mkd_set (by have := HML.out; omega)] at hb
                      by_cases e : y = b
                      · subst e; exact .inl (by simp)
                      · rw [if_neg e] at hb
                        rcases H9.out b hb with h | h
                        · exact .inl (List.mem_append_left _ h)
                        · exact .inr h
                · rw [hmk] at hcm
                  have HMK := Lib.hid hmk
                  clear hmk
                  go_wp2_with fail
                  go_roundg (ns.length - (j + 1))
                  case measure => omega
                  case rel => exact ⟨j + 1, xs, ms2, by omega, rfl, by go_num, hP, HT.out _ HALL.out HMK.out, hon, hap, H9.out⟩
              · obtain rfl : j = ns.length := by omega
                go_wp2_with fail
                go_roundg (go - 1)
                case measure => have := hP.pos; omega
                case rel =>
                  have h1 := HALL.out
                  rw [List.take_length, ← HNS.out] at h1
                  exact ⟨xs, ms2, hP.done h1, H9.out⟩
        · have e4 : (opN k x == 4) = false := by simpa using h4
          have hgo : opN k x = 4 → s.testBit (argN k x) = true := fun h => absurd h h4
          have HGO := Lib.hid hgo
          have H9 := Lib.hid h9
          clear h9 hgo h4
          go_wp2_with fail
          generalize wr.alloc (.cells #[.int .i64 (opN k x), .int .i64 (argN k x), .int .i64 k.ins[x].term.kind, .int .i64 k.ins[x].term.num, .string k.ins[x].term.name, .slice A' k.ins[x].term.kids.length c', .int .i64 k.ins[x].to] 57) = W at hbA hPW hbwW ca0 ca1 ⊢
          have hgo := HGO.out
          have h9 := H9.out
          clear H9 HGO d0 d1 d2 d3 d4 k0 k1 k2 k3 k4 k5 k6
          refine (HNX.out x hxl _ hbwW).mono ?_
          rintro e w3 ⟨An, cn, rfl, hon, hb3⟩
          have hP := hPW.below hb3
          have hap : Apart (.slice An (nextL k x).length cn) (.slice (some ⟨gt, 0, none⟩) ys.length ct) := fun b h1 h2 => by
            have h3 := (hon.lt b h1).1
            have h4 := (hPW.todo.lt b h2).2
            omega
          have hszo : w1.heap.size ≤ W.heap.size := hPW.grown.size
          have HNE := Lib.hid (show nxR k (fun q => s.testBit q = true) x = nextL k x from nxR_go (R := fun q => s.testBit q = true) hgo)
          have HXN := Lib.hid (fun y (hy : y ∈ nextL k x) => HR.out x y hxl (by rw [HNE.out]; exact hy))
          have HNL := Lib.hid (nextL_len k x)
          have H9 := Lib.hid h9
          clear h9
          generalize hns : nextL k x = ns at hon HXN HNL hap HNE ⊢
          have HNS := Lib.hid (show nxR k (fun q => s.testBit q = true) x = ns from HNE.out)
          clear hns
          have hnl2 := HNL.out
          go_wp2_with fail
          obtain ⟨wo, rfl⟩ : ∃ wo : World, wo = wr := ⟨_, rfl⟩
          obtain ⟨go, rfl⟩ : ∃ go : Nat, go = gk := ⟨_, rfl⟩
          go_loopg [8, 78] ns.length (fun l td i wr => ∃ (j : Nat) (xs : List Nat) (ms2 : List Bool), j ≤ ns.length ∧ l = ns.length - j ∧ i = .int .i64 j ∧ Spr w1 w.heap.size w.heap.size k.ins.length k.ins.length (nxR k (fun q => s.testBit q = true)) (ent k p) ((List.replicate k.ins.length false).set (ent k p) true) go td xs (x :: xs) ms2 wr ∧ (∀ y ∈ ns.take j, mkd ms2 y = true) ∧ wr.ownsRow W.heap.size 3 1 (.slice An ns.length cn) ns.length (nv ns) ∧ Apart (.slice An ns.length cn) td ∧ (∀ b, mkd ms2 b = true → b ∈ xs ∨ opN k b ≠ 9))
          case atStart => exact ⟨0, ys, ms', by omega, by omega, rfl, hP, by simp, hon, hap, H9.out⟩
          case round =>
            clear hP hon hap
            obtain ⟨j, xs, ms2, hj, rfl, rfl, hP, hall, hon, hap, h9⟩ := hrel
            have HALL := Lib.hid hall
            have H9 := Lib.hid h9
            clear hall h9
            obtain ⟨A2, c2', rfl⟩ := own_form hP.todo
            by_cases hlt : j < ns.length
            · obtain ⟨ad, rfl, _, hcj⟩ := (own_rd hon).nat hlt
              have hyl := HXN.out ns[j] (List.getElem_mem hlt)
              have hml := hP.len
              have HML := Lib.hid hml
              have hcm := own_at hP.marks (j := ns[j]) hyl (u := .bool (mkd ms2 ns[j])) (by rw [List.getElem?_map, List.getElem?_eq_getElem (by omega), mkd_get (by omega)]; rfl)
              have HY := Lib.hid (show ns[j] ∈ nxR k (fun q => s.testBit q = true) x from by rw [HNS.out]; exact List.getElem_mem hlt)
              have HT := Lib.hid (fun P => take_all (P := P) hlt)
              clear hml
              generalize ns[j] = y at *
              have z1 : (0 : Int) ≤ (y : Int) := by omega
              have z2 : (y : Int) < (k.ins.length : Int) := by omega
              cases hmk : mkd ms2 y
              · rw [hmk] at hcm
                have HMK := Lib.hid hmk
                clear hmk
                have hfz := hP.marks.frozenAt y
                obtain ⟨s0, s1, s2⟩ := hP.mark hyl HMK.out (x := x) (List.mem_cons_self ..) HY.out
                have hsz := hP.grown.size
                have hcn := hP.cnt
                go_wp2_with (at_builtin; refine append_int2 rfl _ _ rfl s0 rfl rfl (by simp) (by omega) (by simpa using hsz) ?_; intro A' c' w2 ho2 hg2 hl2)
                go_roundg (ns.length - (j + 1))
                case measure => omega
                case rel =>
                  have hon1 := hon.kept s2 (.inr (by
                    intro h1
                    have := (hon.lt w.heap.size h1).1
                    have := hP.grown.size
                    omega))
                  have hpu := hP.push hyl HMK.out (x := x) (List.mem_cons_self ..) HY.out ho2 hg2
                  refine ⟨j + 1, xs ++ [y], ms2.set y true, by omega, rfl, by go_num, hpu.mono (by omega), HT.out (fun z => mkd (ms2.set y true) z = true) (fun z hz => ?_) ?_, hon1.kept hg2 hap.kept, ?_, ?_⟩
                  · rw [mkd_set (by have := HML.out; omega)]
                    split
                    · rfl
                    · exact HALL.out z hz
                  · rw [mkd_set (by have := HML.out; omega), if_pos rfl]
                  · intro b h1 h2
                    rcases hl2 with h3 | h3
                    · rw [h3] at h2; exact hap b h1 h2
                    · rw [h3] at h2
                      have := (hon.lt b h1).2
                      injection h2 with h2
                      simp at h2
                      omega
                  · intro b hb
                    rw [mkd_set (by have := HML.out; omega)] at hb
                    by_cases e : y = b
                    · subst e; exact .inl (by simp)
                    · rw [if_neg e] at hb
                      rcases H9.out b hb with h | h
                      · exact .inl (List.mem_append_left _ h)
                      · exact .inr h
              · rw [hmk] at hcm
                have HMK := Lib.hid hmk
                clear hmk
                go_wp2_with fail
                go_roundg (ns.length - (j + 1))
                case measure => omega
                case rel => exact ⟨j + 1, xs, ms2, by omega, rfl, by go_num, hP, HT.out _ HALL.out HMK.out, hon, hap, H9.out⟩
            · obtain rfl : j = ns.length := by omega
              go_wp2_with fail
              go_roundg (go - 1)
              case measure => have := hP.pos; omega
              case rel =>
                have h1 := HALL.out
                rw [List.take_length, ← HNS.out] at h1
                exact ⟨xs, ms2, hP.done h1, H9.out⟩
end Go.Proofs.Ytjnlmiekldflhaa
