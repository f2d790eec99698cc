/- Contracts of reach, marked and liveOf. -/
import Derived.Test.YtkgoajnnkimkaaaGreatC1
set_option linter.unusedSimpArgs false
set_option linter.unusedVariables false
namespace Go.Proofs.YtkgoajnnkimkaaaGreat
open Go.ChangeShapes Go.WideShapes Go.ChangeAt Go.RowKit

section
variable (w : World) {ops : Array Oper} {rest : List Oper} {o : Oper} {a : Act} {Q : Exit → Act → World → Prop}
theorem replicate_bv (n : Nat) : (madeCells (Value.bool false).cells (n * 1)).toList = (List.replicate n false).map bv := by
  show (madeCells #[Value.bool false] (n * 1)).toList = _
  rw [toList_madeCells_one, Nat.mul_one, List.map_replicate]; rfl
/-- make([]bool, n). -/
theorem make_bools (hg : o.guard = none) (l c : Operand) (hop : o.op = Op.makeSlice 87 l c) (n : Nat) (hl : a.eval l = .int .i64 (n : Int)) (hc : a.eval c = .int .i64 (n : Int)) (hn : n ≤ 1099511627776)
    (hK : ∀ w', w'.ownsRow w.heap.size 4 1 (.slice (some ⟨w.heap.size, 0, none⟩) n n) n ((List.replicate n false).map bv) → Below w.heap.size w w' →
      wpList Tryz.prog ops Q rest (a.put o.dst (.slice (some ⟨w.heap.size, 0, none⟩) n n)) w') : wpList Tryz.prog ops Q (o :: rest) a w := by
  obtain ⟨i0, hi, hz0, hz1, hz2⟩ := info_parts info_bool
  refine wpList_make_full w hg l c _ hop w.heap.size _ i0 _ 1 Tryz.underlying87 hi hz0 hz1 _ _ _ _ n hl hc rfl rfl (by rw [hz2]; omega) (by unfold maxLen; omega) (Nat.le_refl _) ?_
  intro w' h1 h2
  rw [replicate_bv] at h1
  exact hK w' h1 ((Below.refl _ _).grown h2 (Nat.le_refl _) (by simp))
end
/-- New marks. -/
def NewMarks (w : World) (ms : List Bool) (e : Ending) (w' : World) : Prop := NewRow w 4 1 ms.length (ms.map bv) e w'
theorem newMarks_of {w w' : World} {n : Nat} {P : Nat → Prop} {A : Option Addr} {c : Nat} (ho : w'.ownsRow w.heap.size 4 1 (.slice A n c) n ((markL n P).map bv)) (hb : Below w.heap.size w w') : NewMarks w (markL n P) (.returned (.slice A n c)) w' :=
  ⟨A, c, by rw [markL_len], by rw [markL_len]; exact ho, hb⟩
theorem own_below0 {w w' : World} {base : Nat} {t : TypeId} {v : Value} {n : Nat} {xs : List Value} (h : w.ownsRow base t 1 v n xs) (hb : Below w.heap.size w w') : w'.ownsRow base t 1 v n xs := own_below h hb

theorem reach_any {B : Nat} (g : Nat) (v : CV) (k : Cd) (a : Nat) (w : World) (hr : Right k) (hk : CodeAt w B v k) (hg : KAt w g v k) (ha : a < k.ins.length) :
    Calls Tryz.prog 124 #[.pointer (some ⟨g, 0, none⟩), .int .i64 a] w (NewMarks w (markL k.ins.length (Reach (nextL k) a))) := by
  have hins := hr.ins
  have hgl : g < w.heap.size := World.block_lt_of_cell? w _ hg.1
  have HS := Lib.hid (fun W (hb : Below w.heap.size w W) ho => spread_any (B := w.heap.size) (base := w.heap.size) g w.heap.size k.ins.length v k a (List.replicate k.ins.length false) W hr (hk.full.below hb) (Nat.le_refl _) (hg.to hb) (by omega) ha ho)
  obtain ⟨c0, c1, c2, c3, c4⟩ := hg
  clear hr hk
  have fin : ∀ ms' W w', Srch (nextL k) a (List.replicate k.ins.length false) ms' [] → w'.ownsRow w.heap.size 4 1 (.slice (some ⟨w.heap.size, 0, none⟩) k.ins.length k.ins.length) k.ins.length (ms'.map bv) → Below w.heap.size w W → W.grownBy w' (some w.heap.size) →
      NewMarks w (markL k.ins.length (Reach (nextL k) a)) (.returned (.slice (some ⟨w.heap.size, 0, none⟩) k.ins.length k.ins.length)) w' := by
    intro ms' W w' h1 h2 h3 h4
    have e := h1.fresh
    subst e
    refine ⟨some ⟨w.heap.size, 0, none⟩, k.ins.length, by rw [markL_len], by rw [markL_len]; exact h2, ?_⟩
    exact h3.trans (below_grown h4 h3.size (Nat.le_refl _))
  go_enter Tryz.func124, Tryz.ntmps124
  go_wp2_with (at_make; refine make_bools _ rfl _ _ rfl k.ins.length rfl rfl (by omega) ?_; intro w1 hown hb)
  refine (HS.out _ hb hown).mono ?_
  rintro e w2 ⟨rfl, ms', h1, h2, h3⟩
  go_wp2_with fail
  go_ret
  exact fin _ _ _ h1 h2 hb h3

/-- The cells of marks, one by one. -/
theorem Rd.mark {w : World} {B : Nat} {A : Option Addr} {ms : List Bool} (h : Rd w B A (ms.map bv)) {j : Nat} (hj : j < ms.length) : ∃ ad, A = some ad ∧ ad.block < B ∧ w.cell? (ad.add j) = some (.bool (mkd ms j)) := by
  obtain ⟨ad, e, hb, hc⟩ := h.bool hj
  rw [mkd_get hj] at hc
  exact ⟨ad, e, hb, hc⟩
theorem nv_snoc (xs : List Nat) (x : Nat) : nv (xs ++ [x]) = ((xs.map natI) ++ [(x : Int)]).map iv := by simp [nv, natI]

theorem marked_any {B : Nat} (A : Option Addr) (c : Nat) (ms : List Bool) (w : World) (h : Rd w B A (ms.map bv)) (hn : ms.length ≤ 1099511627776) :
    Calls Tryz.prog 119 #[.slice A ms.length c] w (NewNats w (listN ms.length fun i => mkd ms i = true)) := by
  have h0 := h.full
  clear h
  go_enter Tryz.func119, Tryz.ntmps119
  go_wp2_with fail
  go_loopg [3, 8] ms.length (fun l out i wr => ∃ j : Nat, j ≤ ms.length ∧ l = ms.length - j ∧ i = .int .i64 j ∧ wr.ownsRow w.heap.size 3 1 out (listN j fun i => mkd ms i = true).length (nv (listN j fun i => mkd ms i = true)) ∧ Below w.heap.size w wr)
  case atStart => exact ⟨0, by omega, by omega, rfl, World.ownsRow_nil _ _ _ _, Below.refl _ _⟩
  case round =>
    obtain ⟨j, hj, rfl, rfl, ho, hb⟩ := hrel
    obtain ⟨Ao, co, rfl⟩ := own_form ho
    have hsz := hb.size
    have hll := listN_len j fun i => mkd ms i = true
    by_cases hlt : j < ms.length
    · obtain ⟨ad, rfl, _, hc⟩ := (h0.below hb).mark hlt
      have HS := Lib.hid (listN_succ j fun i => mkd ms i = true)
      cases hm : mkd ms j
      · rw [hm] at hc
        have HM := Lib.hid hm
        clear hm
        go_wp2_with fail
        go_roundg (ms.length - (j + 1))
        case measure => omega
        case rel => exact ⟨j + 1, by omega, rfl, by go_num, by rw [HS.out, if_neg (by rw [HM.out]; simp)]; exact ho, hb⟩
      · rw [hm] at hc
        have HM := Lib.hid hm
        clear hm
        go_wp2_with (at_builtin; refine append_int rfl _ _ rfl ho rfl rfl (by omega) hsz ?_; intro A' c' w1 ho1 hg1 _)
        go_roundg (ms.length - (j + 1))
        case measure => omega
        case rel => exact ⟨j + 1, by omega, rfl, by go_num, by rw [HS.out, if_pos HM.out, nv_snoc, List.length_append]; exact ho1, below_append hb ho hg1 hsz (Nat.le_refl _)⟩
    · obtain rfl : j = ms.length := by omega
      go_wp2_with fail
      go_ret
      exact ⟨Ao, co, rfl, ho, hb⟩
end Go.Proofs.YtkgoajnnkimkaaaGreat
/- Contracts of l09Reach, l09Marked, l09Live, l09Has: the reference's ways. -/
set_option linter.unusedSimpArgs false
set_option linter.unusedVariables false
namespace Go.Proofs.YtkgoajnnkimkaaaGreat
open Go.ChangeShapes Go.WideShapes Go.ChangeAt Go.RowKit

theorem CodeBox.grown {w W W' : World} {v : CV} {k : Cd} {gm : Nat} (h : CodeBox w v k W) (hg : W.grownBy W' (some gm)) (hgm : w.heap.size < gm) : CodeBox w v k W' := by
  obtain ⟨h1, h2, h3⟩ := h
  have h4 : KAt W w.heap.size v k := h3
  have hne : some w.heap.size ≠ some gm := by simp; omega
  exact ⟨h1.trans (below_grown hg (by omega) (by omega)), Nat.lt_of_lt_of_le h2 hg.size, h4.grown hg hne⟩

set_option maxHeartbeats 1000000 in
theorem l09Reach_any {B : Nat} (v : CV) (k : Cd) (a : Nat) (w : World) (hr : Right k) (hk : CodeAt w B v k) (ha : a < k.ins.length) :
    Calls Tryz.prog 125 #[.agg #[.slice v.gA k.globals.length v.gc, .slice v.lA k.locks.length v.lc, .slice v.pA k.procs.length v.pc, .slice v.eA k.entry.length v.ec, .slice v.iA k.ins.length v.ic], .int .i64 a] w (NewMarks w (markL k.ins.length (Reach (nextL k) a))) := by
  have hkf := hk.full
  have hbx := codeBox w v k
  have hins : k.ins.length ≤ 1500 := hr.ins
  have HR := Lib.hid (fun x n (hx : x < k.ins.length) (hn : n ∈ nextL k x) => (nextL_in hr hx hn).1)
  have HNX := Lib.hid (fun x (hx : x < k.ins.length) W (h : CodeAt W w.heap.size v k) => l09Next_any v k x W hr h hx)
  clear hk hr
  go_enter Tryz.func125, Tryz.ntmps125
  go_wp2_with (at_make; generalize w.alloc (.cells #[.slice v.gA k.globals.length v.gc, .slice v.lA k.locks.length v.lc, .slice v.pA k.procs.length v.pc, .slice v.eA k.entry.length v.ec, .slice v.iA k.ins.length v.ic] 28) = W at hbx ⊢; refine make_bools _ rfl _ _ rfl k.ins.length rfl rfl (by omega) ?_; intro w1 hown hb)
  have hbx1 := hbx.to hb
  have hgm1 := (own_lt hown).2
  have hlt0 := hbx.2.1
  have HFIN := Lib.hid (show ∀ m td xs ms wr, Spr w1 W.heap.size W.heap.size k.ins.length k.ins.length (nextL k) a (List.replicate k.ins.length false) m td xs [] ms wr → NewMarks w (markL k.ins.length (Reach (nextL k) a)) (.returned (.slice (some ⟨W.heap.size, 0, none⟩) k.ins.length k.ins.length)) wr from fun m td xs ms wr h => by
    have e := h.srch.fresh
    subst e
    refine ⟨some ⟨W.heap.size, 0, none⟩, k.ins.length, by rw [markL_len], by rw [markL_len]; exact own_mono h.marks (by omega), ?_⟩
    exact hbx1.1.trans (below_grown h.grown (by omega) (by omega)))
  have hS : Spr w1 W.heap.size W.heap.size k.ins.length k.ins.length (nextL k) a (List.replicate k.ins.length false) (2 * k.ins.length + 1) (.slice (some ⟨w1.heap.size, 0, none⟩) 1 1) [a] [a] (List.replicate k.ins.length false) ((w1).alloc (.cells #[.int .i64 a] 3)) := by
    have hun := unm_le (List.replicate k.ins.length false)
    simp only [List.length_set, List.length_replicate] at hun
    refine ⟨?_, .start (by simpa using ha), hown.alloc _, World.grownBy_alloc _ _ _, by omega, by simp; omega, by simp; omega⟩
    exact World.ownsRow_lit (base := w1.heap.size) (e := 3) (size := 1) w1 #[.int .i64 a] 1 (Nat.le_refl _) (by unfold maxLen; omega) (by simp)
  clear hown hb hbx
  go_loopg [6, 7] (2 * k.ins.length + 1) (fun m td i wr => ∃ (h : Nat) (xs : List Nat) (ms : List Bool), i = .int .i64 h ∧ h ≤ xs.length ∧ Spr w1 W.heap.size W.heap.size k.ins.length k.ins.length (nextL k) a (List.replicate k.ins.length false) m td xs (xs.drop h) ms wr)
  case atStart => exact ⟨0, [a], _, rfl, by simp, hS⟩
  case round =>
    clear hS
    obtain ⟨h, xs, ms, rfl, hh, hS⟩ := hrel
    obtain ⟨A, ct, rfl⟩ := own_form hS.todo
    have hcn := hS.cnt
    have hbxr := hbx1.grown hS.grown hlt0
    obtain ⟨hbw, hsz, c0, c1, c2, c3, c4⟩ := id hbxr
    by_cases hlt : h < xs.length
    · have hdr : xs.drop h = xs[h] :: xs.drop (h + 1) := List.drop_eq_getElem_cons hlt
      rw [hdr] at hS
      have hxl : xs[h] < k.ins.length := by have := (hS.srch.td xs[h] (List.mem_cons_self ..)).1; rw [hS.len] at this; exact this
      clear hdr
      obtain ⟨ad, rfl, hbl, hcx⟩ := (own_rd hS.todo).nat hlt
      generalize xs[h] = x at *
      have z1 : (0 : Int) ≤ (h : Int) := by omega
      have z2 : (h : Int) < (xs.length : Int) := by omega
      go_wp2_with fail
      go_region_held3 (fun w' => Below wr.heap.size wr w' ∧ w'.cell? ⟨w.heap.size, 0, none⟩ = some (.slice v.gA k.globals.length v.gc) ∧ w'.cell? ⟨w.heap.size, 1, none⟩ = some (.slice v.lA k.locks.length v.lc) ∧
          w'.cell? ⟨w.heap.size, 2, none⟩ = some (.slice v.pA k.procs.length v.pc) ∧ w'.cell? ⟨w.heap.size, 3, none⟩ = some (.slice v.eA k.entry.length v.ec) ∧ w'.cell? ⟨w.heap.size, 4, none⟩ = some (.slice v.iA k.ins.length v.ic) ∧ w'.cell? (ad.add h) = some (.int .i64 x))
        (first | exact ⟨(Below.refl _ _).drew, c0, c1, c2, c3, c4, hcx⟩ | assumption | (go_split_ands; refine ⟨below_trans' (by assumption) hb1, ?_, ?_, ?_, ?_, ?_, ?_⟩ <;> exact cell_below hb1 (by assumption)))
        (first | (go_at_call 178; go_split_ands; refine (HNX.out x hxl _ (hkf.below (below_trans' hbw (by assumption)))).mono ?_; rintro e w2 ⟨An, cn, rfl, hon, hb1⟩))
      have hb2 : Below wr.heap.size wr w2 := below_trans' ((Below.refl _ _).drew) hb1
      have hP := hS.below hb2
      have hap : Apart (.slice An (nextL k x).length cn) (.slice (some ad) xs.length ct) := fun b h1 h2 => by
        have h3 : wr.heap.size ≤ b := (hon.lt b h1).1
        have h4 := (hS.todo.lt b h2).2
        omega
      have hon : w2.ownsRow wr.heap.size 3 1 (.slice An (nextL k x).length cn) (nextL k x).length (nv (nextL k x)) := hon
      have hszo := hS.grown.size
      clear hS hcx hbl hb1 hb2 c0 c1 c2 c3 c4 hbxr hbw hsz
      have HXN := Lib.hid (fun y (hy : y ∈ nextL k x) => HR.out x y hxl hy)
      have HNL := Lib.hid (show (nextL k x).length ≤ 1500 from by have := nextL_len k x; omega)
      generalize hns : nextL k x = ns at hon HXN HNL hap ⊢
      have HNS := Lib.hid hns
      clear hns
      have hnl2 := HNL.out
      go_wp2_with fail
      obtain ⟨wo, rfl⟩ : ∃ wo : World, wo = wr := ⟨_, rfl⟩
      obtain ⟨go, rfl⟩ : ∃ go : Nat, go = gk := ⟨_, rfl⟩
      go_loopg [6, 9] ns.length (fun l td i wr => ∃ (j : Nat) (xs : List Nat) (ms2 : List Bool), j ≤ ns.length ∧ l = ns.length - j ∧ i = .int .i64 j ∧ h + 1 ≤ xs.length ∧ Spr w1 W.heap.size W.heap.size k.ins.length k.ins.length (nextL k) a (List.replicate k.ins.length false) go td xs (x :: xs.drop (h + 1)) ms2 wr ∧ (∀ y ∈ ns.take j, mkd ms2 y = true) ∧ wr.ownsRow wo.heap.size 3 1 (.slice An ns.length cn) ns.length (nv ns) ∧ Apart (.slice An ns.length cn) td)
      case atStart => exact ⟨0, xs, ms, by omega, by omega, rfl, hlt, hP, by simp, hon, hap⟩
      case round =>
        clear hP hon hap
        obtain ⟨j, xs, ms2, hj, rfl, rfl, hh2, hP, hall, hon, hap⟩ := hrel
        have HALL := Lib.hid hall
        clear hall
        obtain ⟨A2, c2', rfl⟩ := own_form hP.todo
        by_cases hltj : j < ns.length
        · obtain ⟨adn, rfl, _, hcj⟩ := (own_rd hon).nat hltj
          have hyl := HXN.out ns[j] (List.getElem_mem hltj)
          have hml := hP.len
          have HML := Lib.hid hml
          have hcm := own_at hP.marks (j := ns[j]) hyl (u := .bool (mkd ms2 ns[j])) (by rw [List.getElem?_map, List.getElem?_eq_getElem (by omega), mkd_get (by omega)]; rfl)
          have HY := Lib.hid (show ns[j] ∈ nextL k x from by rw [HNS.out]; exact List.getElem_mem hltj)
          have HT := Lib.hid (fun P => take_all (P := P) hltj)
          clear hml
          generalize ns[j] = y at *
          have z1 : (0 : Int) ≤ (y : Int) := by omega
          have z2 : (y : Int) < (k.ins.length : Int) := by omega
          cases hmk : mkd ms2 y
          · rw [hmk] at hcm
            have HMK := Lib.hid hmk
            clear hmk
            have hfz := hP.marks.frozenAt y
            obtain ⟨s0, s1, s2⟩ := hP.mark hyl HMK.out (x := x) (List.mem_cons_self ..) HY.out
            have hsz := hP.grown.size
            have hcn := hP.cnt
            have hcj2 := s2.cell hcj (by
              intro h1
              rw [block_of_add] at h1
              have h2 := (hon.lt adn.block rfl).1
              injection h1 with h1
              omega)
            have hbl2 : (adn.add j).block ≠ W.heap.size := by
              rw [block_of_add]
              have h2 := (hon.lt adn.block rfl).1
              omega
            go_wp2_with (at_builtin; refine append_int2 rfl _ _ rfl s0 rfl rfl (by simp) (by omega) (by simpa using hsz) ?_; intro A' c' w2 ho2 hg2 hl2)
            go_roundg (ns.length - (j + 1))
            case measure => omega
            case rel =>
              have hon1 := hon.kept s2 (.inr (by
                intro h1
                have := (hon.lt W.heap.size h1).1
                have := hP.grown.size
                omega))
              have hpu := hP.push hyl HMK.out (x := x) (List.mem_cons_self ..) HY.out ho2 hg2
              rw [List.cons_append, ← List.drop_append_of_le_length hh2] at hpu
              refine ⟨j + 1, xs ++ [y], ms2.set y true, by omega, rfl, by go_num, by simp; omega, hpu.mono (by omega), HT.out (fun z => mkd (ms2.set y true) z = true) (fun z hz => ?_) ?_, hon1.kept hg2 hap.kept, ?_⟩
              · rw [mkd_set (by have := HML.out; omega)]
                split
                · rfl
                · exact HALL.out z hz
              · rw [mkd_set (by have := HML.out; omega), if_pos rfl]
              · intro b h1 h2
                rcases hl2 with h3 | h3
                · rw [h3] at h2; exact hap b h1 h2
                · rw [h3] at h2
                  have := (hon.lt b h1).2
                  injection h2 with h2
                  simp at h2
                  omega
          · rw [hmk] at hcm
            have HMK := Lib.hid hmk
            clear hmk
            go_wp2_with fail
            go_roundg (ns.length - (j + 1))
            case measure => omega
            case rel => exact ⟨j + 1, xs, ms2, by omega, rfl, by go_num, hh2, hP, HT.out _ HALL.out HMK.out, hon, hap⟩
        · obtain rfl : j = ns.length := by omega
          have hcn := hP.cnt
          go_wp2_with fail
          go_roundg (go - 1)
          case measure => have := hP.pos; omega
          case rel =>
            have h1 := HALL.out
            rw [List.take_length, ← HNS.out] at h1
            exact ⟨h + 1, xs, ms2, by go_num, hh2, hP.done h1⟩
    · obtain rfl : h = xs.length := by omega
      go_wp2_with fail
      go_ret
      rw [List.drop_length] at hS
      exact HFIN.out _ _ _ _ _ hS
/- behind -/
theorem l09Marked_any {B : Nat} (A : Option Addr) (c : Nat) (ms : List Bool) (w : World) (h : Rd w B A (ms.map bv)) (hn : ms.length ≤ 1099511627776) :
    Calls Tryz.prog 109 #[.slice A ms.length c] w (NewNats w (listN ms.length fun i => mkd ms i = true)) := by
  have h0 := h.full
  clear h
  have ho0 := World.ownsRow_lit (base := w.heap.size) (e := 3) (size := 1) w #[] 0 (Nat.le_refl _) (by simp) rfl
  go_enter Tryz.func109, Tryz.ntmps109
  go_wp2_with fail
  go_loopg [3, 4] ms.length (fun l out i wr => ∃ j : Nat, j ≤ ms.length ∧ l = ms.length - j ∧ i = .int .i64 j ∧ wr.ownsRow w.heap.size 3 1 out (listN j fun i => mkd ms i = true).length (nv (listN j fun i => mkd ms i = true)) ∧ Below w.heap.size w wr)
  case atStart => exact ⟨0, by omega, by omega, rfl, ho0, below_alloc0 _ _⟩
  case round =>
    clear ho0
    obtain ⟨j, hj, rfl, rfl, ho, hb⟩ := hrel
    obtain ⟨Ao, co, rfl⟩ := own_form ho
    have hsz := hb.size
    have hll := listN_len j fun i => mkd ms i = true
    by_cases hlt : j < ms.length
    · obtain ⟨ad, rfl, _, hc⟩ := (h0.below hb).mark hlt
      have HS := Lib.hid (listN_succ j fun i => mkd ms i = true)
      cases hm : mkd ms j
      · rw [hm] at hc
        have HM := Lib.hid hm
        clear hm
        go_wp2_with fail
        go_roundg (ms.length - (j + 1))
        case measure => omega
        case rel => exact ⟨j + 1, by omega, rfl, by go_num, by rw [HS.out, if_neg (by rw [HM.out]; simp)]; exact ho, hb⟩
      · rw [hm] at hc
        have HM := Lib.hid hm
        clear hm
        go_wp2_with (at_builtin; refine append_int rfl _ _ rfl ho rfl rfl (by omega) hsz ?_; intro A' c' w1 ho1 hg1 _)
        go_roundg (ms.length - (j + 1))
        case measure => omega
        case rel => exact ⟨j + 1, by omega, rfl, by go_num, by rw [HS.out, if_pos HM.out, nv_snoc, List.length_append]; exact ho1, below_append hb ho hg1 hsz (Nat.le_refl _)⟩
    · obtain rfl : j = ms.length := by omega
      go_wp2_with fail
      go_ret
      exact ⟨Ao, co, rfl, ho, hb⟩

theorem l09Has_any {B : Nat} (A : Option Addr) (c : Nat) (xs : List Nat) (n : Nat) (w : World) (h : Rd w B A (nv xs)) (hn : xs.length ≤ 1099511627776) :
    Calls Tryz.prog 172 #[.slice A xs.length c, .int .i64 n] w fun e w' => e = .returned (.bool (decide (n ∈ xs))) ∧ Below w.heap.size w w' := by
  have h0 := h.full
  clear h
  go_enter Tryz.func172, Tryz.ntmps172
  go_wp2_with fail
  go_loopg [5] xs.length (fun l i wr => ∃ j : Nat, j ≤ xs.length ∧ l = xs.length - j ∧ i = .int .i64 j ∧ n ∉ xs.take j ∧ Below w.heap.size w wr)
  case atStart => exact ⟨0, by omega, by omega, rfl, by simp, Below.refl _ _⟩
  case round =>
    obtain ⟨j, hj, rfl, rfl, hno, hb⟩ := hrel
    have HNO := Lib.hid hno
    clear hno
    by_cases hlt : j < xs.length
    · obtain ⟨ad, rfl, _, hc⟩ := (h0.below hb).nat hlt
      by_cases e : xs[j] = n
      · have e1 : ((xs[j] : Int) == (n : Int)) = true := by simp [e]
        have HE := Lib.hid e
        clear e
        go_wp2_with fail
        go_ret
        exact ⟨ret_bool (by have : n ∈ xs := by { rw [← HE.out]; exact List.getElem_mem hlt }
                            simp [this]), hb⟩
      · have e1 : ((xs[j] : Int) == (n : Int)) = false := by simp; omega
        have HE := Lib.hid e
        clear e
        go_wp2_with fail
        go_roundg (xs.length - (j + 1))
        case measure => omega
        case rel =>
          refine ⟨j + 1, by omega, rfl, by go_num, ?_, hb⟩
          rw [List.take_succ_eq_append_getElem hlt]
          simp only [List.mem_append, List.mem_singleton, not_or]
          exact ⟨HNO.out, fun h => HE.out h.symm⟩
    · obtain rfl : j = xs.length := by omega
      go_wp2_with fail
      go_ret
      have h1 := HNO.out
      rw [List.take_length] at h1
      exact ⟨ret_bool (by simp [h1]), hb⟩

theorem own_some {w : World} {base : Nat} {t : TypeId} {A : Option Addr} {n c : Nat} {xs : List Value} (h : w.ownsRow base t 1 (.slice A n c) n xs) (hn : 0 < n) : ∃ g, A = some ⟨g, 0, none⟩ := by
  rcases h.2 with ⟨e, h0⟩ | ⟨g, cap, cur, e, _⟩
  · omega
  · injection e with e; exact ⟨g, e⟩
theorem markL_set {nx : Nat → List Nat} {n a : Nat} (ha : a < n) : (markL n (Reach nx a)).set a true = markL n (Comes nx a) := by
  have hl : a < (markL n (Reach nx a)).length := by rw [markL_len]; exact ha
  refine eq_markL (by rw [List.length_set, markL_len]) fun b hb => ?_
  rw [mkd_set hl]
  by_cases e : a = b
  · subst e; simp [Comes]
  · rw [if_neg e, mkd_markL_true]
    constructor
    · rintro ⟨_, h⟩; exact .inr h
    · rintro (h | h)
      · exact absurd h.symm e
      · exact ⟨hb, h⟩
theorem entry_cell {w : World} {B : Nat} {v : CV} {k : Cd} (hr : Right k) (hk : CodeAt w B v k) {p : Nat} (hp : p < k.procs.length) : ∃ ad, v.eA = some ad ∧ ad.block < B ∧ w.cell? (ad.add p) = some (.int .i64 (ent k p : Int)) := by
  obtain ⟨ad, e, hb, hc⟩ := hk.e.int (k := p) (by rw [hr.entry]; exact hp)
  rw [hr.ent_eq p (by rw [hr.entry]; exact hp)] at hc
  exact ⟨ad, e, hb, hc⟩

theorem l09Live_any {B : Nat} (v : CV) (k : Cd) (p : Nat) (w : World) (hr : Right k) (hk : CodeAt w B v k) (hp : p < k.procs.length) :
    Calls Tryz.prog 127 #[.agg #[.slice v.gA k.globals.length v.gc, .slice v.lA k.locks.length v.lc, .slice v.pA k.procs.length v.pc, .slice v.eA k.entry.length v.ec, .slice v.iA k.ins.length v.ic], .int .i64 p] w (NewMarks w (markL k.ins.length (LiveP k p))) := by
  have hkf := hk.full
  have hbx := codeBox w v k
  have hins := hr.ins
  have hel := hr.entry
  have hpl := hr.procs
  have hent := ent_lt hr hp
  have HS := Lib.hid (markL_set (nx := nextL k) hent)
  have HNX := Lib.hid (fun W (h : CodeAt W w.heap.size v k) => l09Reach_any v k (ent k p) W hr h hent)
  obtain ⟨ad, ee, hbe, hce⟩ := entry_cell hr hkf hp
  have z1 : (0 : Int) ≤ (p : Int) := by omega
  have z2 : (p : Int) < (k.entry.length : Int) := by omega
  have z3 : p < k.entry.length := by omega
  have HEE := Lib.hid ee
  have HEL := Lib.hid hel
  clear hk hr hel ee
  go_enter Tryz.func127, Tryz.ntmps127
  go_wp2_with fail
  generalize w.alloc (.cells #[.slice v.gA k.globals.length v.gc, .slice v.lA k.locks.length v.lc, .slice v.pA k.procs.length v.pc, .slice v.eA k.entry.length v.ec, .slice v.iA k.ins.length v.ic] 28) = W at hbx ⊢
  obtain ⟨hbw, hsz, c0, c1, c2, c3, c4⟩ := id hbx
  have hce1 := hbw.cell (p := ad.add p) (by rw [block_of_add]; exact hbe)
  rw [hce] at hce1
  rw [HEE.out] at c3
  go_region_held3 (fun w' => Below W.heap.size W w' ∧ w'.cell? ⟨w.heap.size, 0, none⟩ = some (.slice v.gA k.globals.length v.gc) ∧ w'.cell? ⟨w.heap.size, 1, none⟩ = some (.slice v.lA k.locks.length v.lc) ∧
      w'.cell? ⟨w.heap.size, 2, none⟩ = some (.slice v.pA k.procs.length v.pc) ∧ w'.cell? ⟨w.heap.size, 3, none⟩ = some (.slice (some ad) k.entry.length v.ec) ∧ w'.cell? ⟨w.heap.size, 4, none⟩ = some (.slice v.iA k.ins.length v.ic) ∧ w'.cell? (ad.add p) = some (.int .i64 (ent k p : Int)))
    (first | exact ⟨(Below.refl _ _).drew, c0, c1, c2, c3, c4, hce1⟩ | assumption | (go_split_ands; refine ⟨below_trans' (by assumption) hb1, ?_, ?_, ?_, ?_, ?_, ?_⟩ <;> exact cell_below hb1 (by assumption)))
    (first | (go_at_call 125; rw [← HEE.out]; go_split_ands; refine (HNX.out _ (hkf.below (below_trans' hbw (by assumption)))).mono ?_; rintro e w2 ⟨An, cn, rfl, hon, hb1⟩))
  rename_i hHeld
  obtain ⟨q, q0, q1, q2, q3, q4, q5⟩ := hHeld
  rw [markL_len] at hon ⊢
  obtain ⟨gm, rfl⟩ := own_some hon (by omega)
  have hfz := hon.frozenAt (ent k p)
  obtain ⟨u, hu⟩ := own_has hon (j := ent k p) (by omega)
  obtain ⟨s1, s2⟩ := hon.stored (ent k p) (bv true)
  rw [bv_set, HS.out] at s1
  have hgm : W.heap.size ≤ gm := (own_lt hon).1
  have y1 : (0 : Int) ≤ (ent k p : Int) := by omega
  have y2 : (ent k p : Int) < (k.ins.length : Int) := by omega
  go_wp2_with fail
  go_ret
  refine newMarks_of (own_mono s1 hbw.size) ?_
  exact (below_trans' hbw q).setCell (by show w.heap.size ≤ gm; omega) _
end Go.Proofs.YtkgoajnnkimkaaaGreat
/- Contract of liveOf; unionOf; isProc; mainProc. -/
set_option linter.unusedSimpArgs false
set_option linter.unusedVariables false
namespace Go.Proofs.YtkgoajnnkimkaaaGreat
open Go.ChangeShapes Go.WideShapes Go.ChangeAt Go.RowKit

theorem listN_cut {n m : Nat} {P : Nat → Prop} (hm : m ≤ n) (h : ∀ i, m ≤ i → i < n → ¬ P i) : listN n P = listN m P := by
  induction n with
  | zero => rw [show m = 0 from by omega]
  | succ n ih =>
    rcases Nat.lt_or_ge n m with h1 | h1
    · rw [show m = n + 1 from by omega]
    · rw [listN_succ, if_neg (h n h1 (by omega)), ih h1 fun i hi hn => h i hi (by omega)]
theorem listN_none {n : Nat} {P : Nat → Prop} (h : ∀ i, i < n → ¬ P i) : listN n P = [] := by
  rw [listN_cut (m := 0) (by omega) fun i _ hi => h i hi]
  rfl
theorem mkd_markL_pos {n : Nat} {P : Nat → Prop} {b : Nat} (h : b < n) (hp : P b) : mkd (markL n P) b = true := mkd_markL_true.2 ⟨h, hp⟩
theorem mkd_markL_neg {n : Nat} {P : Nat → Prop} {b : Nat} (hp : ¬ P b) : mkd (markL n P) b = false := by
  cases h : mkd (markL n P) b
  · rfl
  · exact absurd (mkd_markL_true.1 h).2 hp
theorem live_list {k : Cd} (hr : Right k) {p : Nat} (hp : p < k.procs.length) : listN (fin k p) (fun x => ent k p ≤ x ∧ LiveA k x) = listN k.ins.length (LiveP k p) := by
  have hl := hr.lt p hp
  rw [listN_cut (n := k.ins.length) (m := fin k p) hl.2 fun i h1 h2 h3 => by have := (live_in hr hp h3).2.2.2; omega]
  apply listN_congr
  intro i hi
  constructor
  · rintro ⟨h1, h2⟩
    have e := procN_of hr hp h1 hi
    unfold LiveA at h2
    rw [e] at h2
    exact h2
  · intro h
    have := live_in hr hp h
    refine ⟨this.2.2.1, ?_⟩
    unfold LiveA
    rw [this.2.1]
    exact h
/-- What a world's block says of what is live. -/
def LvAt (W : World) (B g : Nat) (k : Cd) : Prop := ∃ A c, W.cell? ⟨g, 5, none⟩ = some (.slice A k.ins.length c) ∧ Rd W B A ((markL k.ins.length (LiveA k)).map bv)
theorem LvAt.below {W W' : World} {B g : Nat} {k : Cd} (h : LvAt W B g k) (hb : Below W.heap.size W W') (hB : B ≤ W.heap.size) : LvAt W' B g k := by
  obtain ⟨A, c, h1, h2⟩ := h
  exact ⟨A, c, cell_below hb h1, h2.below (hb.mono hB)⟩
theorem LvAt.full {W : World} {B g : Nat} {k : Cd} (h : LvAt W B g k) : LvAt W W.heap.size g k := by
  obtain ⟨A, c, h1, h2⟩ := h
  exact ⟨A, c, h1, h2.full⟩

set_option maxHeartbeats 1000000 in
theorem liveOf_any {B : Nat} (g : Nat) (v : CV) (k : Cd) (p : Nat) (w : World) (hr : Right k) (hk : CodeAt w B v k) (hg : KAt w g v k) (hl : LvAt w B g k) (hp : p < k.procs.length) :
    Calls Tryz.prog 126 #[.pointer (some ⟨g, 0, none⟩), .int .i64 p] w (NewNats w (listN k.ins.length (LiveP k p))) := by
  have hkf := hk.full
  have hlf := hl.full
  have hins := hr.ins
  have hpl := hr.procs
  have hlt := hr.lt p hp
  obtain ⟨ad, ee, hbe, hce⟩ := entry_cell hr hkf hp
  have HEE := Lib.hid ee
  have hel : p < k.entry.length := by have := hr.entry; omega
  have hen : k.entry.length ≤ 8 := by have := hr.entry; omega
  have HF := Lib.hid (hr.fin_eq p hp)
  have HLL := Lib.hid (live_list hr hp)
  have HEP := Lib.hid (fun W (h : CodeAt W w.heap.size v k) => endOfProc_any v k p W h (by omega) (by omega) (by omega))
  have hg0 := hg
  obtain ⟨c0, c1, c2, c3, c4⟩ := hg
  rw [ee] at c3
  have z1 : (0 : Int) ≤ (p : Int) := by omega
  have z2 : (p : Int) < (k.entry.length : Int) := by omega
  clear hk hr ee hl
  go_enter Tryz.func126, Tryz.ntmps126
  go_wp2_with fail
  clear c0 c1 c2 c3 c4
  have hat : listN (ent k p) (fun x => ent k p ≤ x ∧ LiveA k x) = [] := listN_none fun i hi h => by omega
  go_loopg [5, 6] (fin k p - ent k p) (fun l out i wr => ∃ a : Nat, ent k p ≤ a ∧ a ≤ fin k p ∧ l = fin k p - a ∧ i = .int .i64 a ∧ wr.ownsRow w.heap.size 3 1 out (listN a fun x => ent k p ≤ x ∧ LiveA k x).length (nv (listN a fun x => ent k p ≤ x ∧ LiveA k x)) ∧ Below w.heap.size w wr)
  case atStart => exact ⟨ent k p, by omega, by omega, rfl, rfl, by rw [hat]; exact World.ownsRow_nil _ _ _ _, Below.refl _ _⟩
  case round =>
    clear hat
    obtain ⟨a, ha1, ha2, rfl, rfl, ho, hb⟩ := hrel
    obtain ⟨Ao, co, rfl⟩ := own_form ho
    have hsz := hb.size
    have hll := listN_len a fun x => ent k p ≤ x ∧ LiveA k x
    obtain ⟨c0, c1, c2, c3, c4⟩ := hg0.to hb
    go_wp2_with fail
    refine (HEP.out _ (hkf.below hb)).mono ?_
    rintro e w1 ⟨rfl, hb1⟩
    rw [HF.out]
    have hb01 := below_trans' hb hb1
    have ho1 := own_below ho hb1
    have hsz1 := hb01.size
    clear c0 c1 c2 c3 c4
    by_cases hlt2 : a < fin k p
    · obtain ⟨A, c, h5, hrd⟩ := hlf.below hb01 (Nat.le_refl _)
      obtain ⟨adl, rfl, hbl, hc⟩ := hrd.mark (j := a) (by rw [markL_len]; omega)
      have y1 : (0 : Int) ≤ (a : Int) := by omega
      have y2 : (a : Int) < (k.ins.length : Int) := by omega
      have HS := Lib.hid (listN_succ a fun x => ent k p ≤ x ∧ LiveA k x)
      by_cases hm : LiveA k a
      · rw [mkd_markL_pos (by omega) hm] at hc
        have HM := Lib.hid hm
        clear hm
        go_wp2_with (at_builtin; refine append_int rfl _ _ rfl ho1 rfl rfl (by omega) hsz1 ?_; intro A' c' w2 ho2 hg2 _)
        go_roundg (fin k p - (a + 1))
        case measure => omega
        case rel => exact ⟨a + 1, by omega, by omega, rfl, by go_num, by rw [HS.out, if_pos ⟨ha1, HM.out⟩, nv_snoc, List.length_append]; exact ho2, below_append hb01 ho1 hg2 hsz1 (Nat.le_refl _)⟩
      · rw [mkd_markL_neg hm] at hc
        have HM := Lib.hid hm
        clear hm
        go_wp2_with fail
        go_roundg (fin k p - (a + 1))
        case measure => omega
        case rel => exact ⟨a + 1, by omega, by omega, rfl, by go_num, by rw [HS.out, if_neg fun h => HM.out h.2]; exact ho1, hb01⟩
    · obtain rfl : a = fin k p := by omega
      go_wp2_with fail
      go_ret
      rw [HLL.out] at ho1 ⊢
      exact ⟨Ao, co, rfl, ho1, hb01⟩
end Go.Proofs.YtkgoajnnkimkaaaGreat
/- Contracts of unionOf, isProc, mainProc, allProcs. -/
set_option linter.unusedSimpArgs false
set_option linter.unusedVariables false
namespace Go.Proofs.YtkgoajnnkimkaaaGreat
open Go.ChangeShapes Go.WideShapes Go.ChangeAt Go.RowKit

theorem foldl_or_lt {ss : List Nat} {m : Nat} (hs : ∀ s ∈ ss, s < 2 ^ m) (which : List Nat) : ∀ s, s < 2 ^ m → which.foldl (fun s i => s ||| (ss[i]?).getD 0) s < 2 ^ m := by
  induction which with
  | nil => intro s h; exact h
  | cons i r ih =>
    intro s h
    rw [List.foldl_cons]
    refine ih _ (Nat.or_lt_two_pow h ?_)
    cases e : ss[i]? with
    | none => exact Nat.two_pow_pos m
    | some x => exact hs x (List.mem_of_getElem? e)
theorem unionN_lt {ss : List Nat} {m : Nat} (hs : ∀ s ∈ ss, s < 2 ^ m) (which : List Nat) : unionN ss which < 2 ^ m := foldl_or_lt hs which 0 (Nat.two_pow_pos m)
theorem unionN_snoc (ss which : List Nat) (i : Nat) : unionN ss (which ++ [i]) = unionN ss which ||| (ss[i]?).getD 0 := by simp [unionN]
theorem mem_bitsTo {s k i : Nat} : i ∈ bitsTo s k ↔ i < k ∧ s.testBit i = true := by simp [bitsTo]
theorem bitsL_nv (s : Nat) : (bitsL s).map iv = nv (bitsTo s 62) := rfl
theorem bitsL_len (s : Nat) : (bitsL s).length = (bitsTo s 62).length := by simp [bitsL]
theorem bitsOf_nats (s : Nat) (w : World) (hs : s < 4611686018427387904) : Calls Tryz.prog 102 #[.int .i64 s] w (NewNats w (bitsTo s 62)) := by
  have := bitsOf_any s w hs
  rw [bitsL_nv, bitsL_len] at this
  exact this

theorem unionOf_any {B : Nat} (A : Option Addr) (c : Nat) (ss : List Nat) (s : Nat) (w : World) (h : Rd w B A (nv ss)) (hn : ss.length ≤ 60) (hss : ∀ x ∈ ss, x < 2 ^ 60) (hs : s < 2 ^ ss.length) :
    Calls Tryz.prog 168 #[.slice A ss.length c, .int .i64 s] w fun e w' => e = .returned (.int .i64 (unionN ss (bitsTo s 62) : Nat)) ∧ Below w.heap.size w w' := by
  have h0 := h.full
  have hs60 : s < 4611686018427387904 := Nat.lt_of_lt_of_le hs (Nat.le_trans (Nat.pow_le_pow_right (by omega) hn : 2 ^ ss.length ≤ 2 ^ 60) (by decide))
  have HB := Lib.hid (fun W => bitsOf_nats s W hs60)
  have HI := Lib.hid (show ∀ i ∈ bitsTo s 62, i < ss.length from fun i hi => lt_of_testBit hs (mem_bitsTo.1 hi).2)
  have HU := Lib.hid (fun l => unionN_lt hss l)
  have HSS := Lib.hid hss
  have hl62 := bitsTo_len s 62
  clear h hss hs
  generalize bitsTo s 62 = bs at *
  go_enter Tryz.func168, Tryz.ntmps168
  go_wp2_with fail
  refine (HB.out _).mono ?_
  rintro e w1 ⟨Ab, cb, rfl, hob, hb1⟩
  have hrb := own_rd hob
  clear hob
  go_wp2_with fail
  go_loopg [5, 11] bs.length (fun l t i wr => ∃ j : Nat, j ≤ bs.length ∧ l = bs.length - j ∧ i = .int .i64 j ∧ t = .int .i64 (unionN ss (bs.take j) : Nat) ∧ Below w1.heap.size w1 wr)
  case atStart => exact ⟨0, by omega, by omega, rfl, rfl, Below.refl _ _⟩
  case round =>
    obtain ⟨j, hj, rfl, rfl, rfl, hb⟩ := hrel
    by_cases hlt : j < bs.length
    · obtain ⟨ad, rfl, _, hc⟩ := (hrb.below hb).nat hlt
      have hil := HI.out bs[j] (List.getElem_mem hlt)
      have HT := Lib.hid (show unionN ss (bs.take (j + 1)) = unionN ss (bs.take j) ||| (ss[bs[j]]?).getD 0 from by rw [List.take_succ_eq_append_getElem hlt, unionN_snoc])
      generalize bs[j] = i at *
      obtain ⟨ad2, rfl, _, hc2⟩ := (h0.below (hb1.trans (hb.mono hb1.size))).nat hil
      have hx := HSS.out ss[i] (List.getElem_mem hil)
      have hu := HU.out (bs.take j)
      have HT2 := Lib.hid (show (ss[i]?).getD 0 = ss[i] from by rw [List.getElem?_eq_getElem hil]; rfl)
      generalize ss[i] = y at *
      have z1 : (0 : Int) ≤ (i : Int) := by omega
      have z2 : (i : Int) < (ss.length : Int) := by omega
      generalize unionN ss (bs.take j) = t at *
      have e1 := i64_or_nat t y (by omega) (by omega)
      go_wp2_with fail
      go_roundg (bs.length - (j + 1))
      case measure => omega
      case rel => exact ⟨j + 1, by omega, rfl, by go_num, by rw [HT.out, HT2.out], hb⟩
    · obtain rfl : j = bs.length := by omega
      go_wp2_with fail
      go_ret
      exact ⟨ret_int (by rw [List.take_length]), below_trans' hb1 hb⟩

theorem isProc_any (g : Nat) (v : CV) (k : Cd) (p : Int) (w : World) (hg : KAt w g v k) (hp : k.procs.length ≤ 1048576) :
    Calls Tryz.prog 88 #[.pointer (some ⟨g, 0, none⟩), .int .i64 p] w fun e w' => e = .returned (.bool (decide (0 ≤ p) && decide (p < k.procs.length))) ∧ w = w' := by
  obtain ⟨c0, c1, c2, c3, c4⟩ := hg
  by_cases h : 0 ≤ p
  · go_enter Tryz.func88, Tryz.ntmps88
    go_wp2_with fail
    go_ret
    exact ⟨ret_bool (by simp [h]), rfl⟩
  · go_enter Tryz.func88, Tryz.ntmps88
    go_wp2_with fail
    go_ret
    exact ⟨ret_bool (by simp; omega), rfl⟩

theorem mainN_place {k : Cd} (hr : Right k) : placeOf k.procs mainS = (mainN k : Int) := by
  unfold placeOf mainN
  rw [if_pos hr.main]
theorem mainProc_any {B : Nat} (g : Nat) (v : CV) (k : Cd) (w : World) (hr : Right k) (hk : CodeAt w B v k) (hg : KAt w g v k) :
    Calls Tryz.prog 166 #[.pointer (some ⟨g, 0, none⟩)] w fun e w' => e = .returned (.int .i64 (mainN k : Nat)) ∧ Below w.heap.size w w' := by
  obtain ⟨c0, c1, c2, c3, c4⟩ := hg
  have hpl := hr.procs
  have HM := Lib.hid (mainN_place hr)
  have HI := Lib.hid (fun W (h : Rd W w.heap.size v.pA (k.procs.map sv)) => sIndex_any v.pA v.pc k.procs mainS W h (by omega))
  have hp := hk.full.p
  clear hr hk
  go_enter Tryz.func166, Tryz.ntmps166
  go_wp2_with fail
  refine (HI.out _ hp).mono ?_
  rintro e w1 ⟨rfl, rfl⟩
  rw [HM.out]
  go_wp2_with fail
  go_ret
  exact ⟨rfl, Below.refl _ _⟩
end Go.Proofs.YtkgoajnnkimkaaaGreat
