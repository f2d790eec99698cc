/- Contract of l16All: what is met and what may be held, of the reference. -/
import Derived.Test.YtkgoajnnkimkaaaGreatE1
import Derived.Test.YtkgoajnnkimkaaaGreatD12
import Derived.Test.YtkgoajnnkimkaaaGreatM2
import Derived.Test.YtkgoajnnkimkaaaGreatD7
set_option linter.unusedSimpArgs false
set_option linter.unusedVariables false
namespace Go.Proofs.YtkgoajnnkimkaaaGreat
open Go.ChangeShapes Go.WideShapes Go.ChangeAt Go.RowKit

/-- The reference's keep, just made. -/
def Made2 (W : World) (v : CV) (k : Cd) (p : Value) (w' : World) : Prop :=
  ∃ g gm gx, p = .pointer (some ⟨g, 0, none⟩) ∧ LK w' W.heap.size g gm gx v k (List.replicate k.ins.length false) (List.replicate k.ins.length 0) true ∧ Below W.heap.size W w'
theorem own_bools {W : World} {g n base : Nat} (h : W.heap[g]? = some (.cells (madeCells #[.bool false] n) 4)) (hb : base ≤ g) (hn : n ≤ 1099511627776) : W.ownsRow base 4 1 (.slice (some ⟨g, 0, none⟩) n n) n ((List.replicate n false).map bv) := by
  refine ⟨by simp, .inr ⟨g, n, _, rfl, hb, h, Nat.le_refl _, by unfold maxLen; omega, by simp [size_madeCells], ?_⟩⟩
  rw [toList_madeCells_one, Nat.mul_one, List.take_of_length_le (by simp), List.map_replicate]
  rfl
theorem made2_of {W W1 W2 W3 : World} {v : CV} {k : Cd} {gm gx : Nat} {M1 M2 : Obj} (hn : k.ins.length ≤ 1500) (e1 : W1 = W.alloc M1) (e2 : W2 = W1.alloc M2)
    (hs : (gm = W.heap.size ∧ gx = W.heap.size + 1 ∧ M1 = .cells (madeCells #[.bool false] k.ins.length) 4 ∧ M2 = .cells (madeCells #[.int .i64 0] k.ins.length) 3) ∨ (gx = W.heap.size ∧ gm = W.heap.size + 1 ∧ M2 = .cells (madeCells #[.bool false] k.ins.length) 4 ∧ M1 = .cells (madeCells #[.int .i64 0] k.ins.length) 3))
    (e3 : W3 = W2.alloc (.cells #[.slice v.gA k.globals.length v.gc, .slice v.lA k.locks.length v.lc, .slice v.pA k.procs.length v.pc, .slice v.eA k.entry.length v.ec, .slice v.iA k.ins.length v.ic, .slice (some ⟨gm, 0, none⟩) k.ins.length k.ins.length, .slice (some ⟨gx, 0, none⟩) k.ins.length k.ins.length, .bool true] 100)) :
    Made2 W v k (.pointer (some ⟨W.heap.size + 1 + 1, 0, none⟩)) W3.drew := by
  subst e1 e2 e3
  have n1 := heap_alloc_new W M1
  have b1 := below_alloc0 W M1
  have s1 : (W.alloc M1).heap.size = W.heap.size + 1 := by simp
  generalize W.alloc M1 = W1 at *
  have n2 := heap_alloc_new W1 M2
  have b2 := below_alloc0 W1 M2
  have s2 : (W1.alloc M2).heap.size = W.heap.size + 1 + 1 := by simp [s1]
  generalize W1.alloc M2 = W2 at *
  have n3 := heap_alloc_new W2 (.cells #[.slice v.gA k.globals.length v.gc, .slice v.lA k.locks.length v.lc, .slice v.pA k.procs.length v.pc, .slice v.eA k.entry.length v.ec, .slice v.iA k.ins.length v.ic, .slice (some ⟨gm, 0, none⟩) k.ins.length k.ins.length, .slice (some ⟨gx, 0, none⟩) k.ins.length k.ins.length, .bool true] 100)
  have b3 := below_alloc0 W2 (.cells #[.slice v.gA k.globals.length v.gc, .slice v.lA k.locks.length v.lc, .slice v.pA k.procs.length v.pc, .slice v.eA k.entry.length v.ec, .slice v.iA k.ins.length v.ic, .slice (some ⟨gm, 0, none⟩) k.ins.length k.ins.length, .slice (some ⟨gx, 0, none⟩) k.ins.length k.ins.length, .bool true] 100)
  generalize W2.alloc (.cells #[.slice v.gA k.globals.length v.gc, .slice v.lA k.locks.length v.lc, .slice v.pA k.procs.length v.pc, .slice v.eA k.entry.length v.ec, .slice v.iA k.ins.length v.ic, .slice (some ⟨gm, 0, none⟩) k.ins.length k.ins.length, .slice (some ⟨gx, 0, none⟩) k.ins.length k.ins.length, .bool true] 100) = W3 at *
  rw [s1] at n2
  rw [s2] at n3
  have m1 : W3.heap[W.heap.size]? = some M1 := (b3.block _ (by omega)).trans ((b2.block _ (by omega)).trans n1)
  have m2 : W3.heap[W.heap.size + 1]? = some M2 := (b3.block _ (by omega)).trans n2
  have hb : Below W.heap.size W W3 := below_trans' (below_trans' b1 b2) b3
  have key : LK W3 W.heap.size (W.heap.size + 1 + 1) gm gx v k (List.replicate k.ins.length false) (List.replicate k.ins.length 0) true := by
    rcases hs with ⟨rfl, rfl, rfl, rfl⟩ | ⟨rfl, rfl, rfl, rfl⟩
    · exact ⟨n3, own_bools m1 (Nat.le_refl _) (by omega), own_mono (zeros_of m2 (Nat.le_succ _) (by omega)) (Nat.le_refl _), by omega, by omega⟩
    · exact ⟨n3, own_bools m2 (by omega) (by omega), own_mono (zeros_of m1 (Nat.le_refl _) (by omega)) (Nat.le_refl _), by omega, by omega⟩
  exact ⟨_, gm, gx, rfl, key.below (Below.refl _ _).drew, hb.drew⟩
/-- The room that is left. -/
def room (k : Cd) (s : List Bool × List Nat) : Nat := unm s.1 + (63 * k.ins.length - s.2.sum)
/-- As s0, or with less room. -/
structure PutR (k : Cd) (s0 : List Bool × List Nat) (new : Bool) (s : List Bool × List Nat) : Prop where
  no : new = false → s = s0
  yes : new = true → room k s < room k s0
theorem PutR.refl (k : Cd) (s : List Bool × List Nat) : PutR k s false s := ⟨fun _ => rfl, fun h => by simp at h⟩
theorem chg_no {h x : Nat} {s : List Bool × List Nat} (hc : chg h s.1 s.2 x = false) (hx : x < s.1.length) (hx2 : x < s.2.length) : lput h s x = s := by
  unfold chg at hc
  simp only [Bool.or_eq_false_iff, Bool.not_eq_false', bne_eq_false_iff_eq] at hc
  unfold lput
  rw [hc.2, set_same hx2]
  refine Prod.ext (mks_antisymm (mks_set _ x) ⟨by simp, fun b hb => ?_⟩) rfl
  rw [mkd_set hx] at hb
  split at hb
  · rename_i e; subst e; exact hc.1
  · exact hb
theorem unm_set_le {ms : List Bool} {x : Nat} (hx : x < ms.length) : unm (ms.set x true) ≤ unm ms := by
  cases h : mkd ms x
  · have := unm_set hx h; omega
  · have e : ms.set x true = ms := mks_antisymm (mks_set ms x) ⟨by simp, fun b hb => by
      rw [mkd_set hx] at hb
      split at hb
      · rename_i e; subst e; exact h
      · exact hb⟩
    rw [e]; exact Nat.le_refl _
theorem chg_yes {k : Cd} {h x : Nat} {s : List Bool × List Nat} (hc : chg h s.1 s.2 x = true) (hx : x < s.1.length) (hx2 : x < s.2.length) (hl : s.2.length = k.ins.length) (hxs : ∀ i, gt (lput h s x).2 i < 64) : room k (lput h s x) < room k s := by
  have hle : (lput h s x).2.sum ≤ 63 * k.ins.length := by
    have := sum_le (xs := (lput h s x).2) (m := 63) fun i _ => by have := hxs i; omega
    rw [show (lput h s x).2.length = k.ins.length from by simp [lput, hl]] at this
    exact this
  have hs := sum_set (y := gt s.2 x ||| h) hx2
  have hor : gt s.2 x ≤ gt s.2 x ||| h := Nat.left_le_or
  have hu := unm_set_le hx
  unfold room
  have e1 : (lput h s x).1 = s.1.set x true := rfl
  have e2 : (lput h s x).2 = s.2.set x (gt s.2 x ||| h) := rfl
  rw [e2] at hle
  rw [e1, e2]
  unfold chg at hc
  rw [Bool.or_eq_true] at hc
  rcases hc with hc | hc
  · have := unm_set hx (by simpa using hc)
    omega
  · have hne : gt s.2 x ||| h ≠ gt s.2 x := by simpa using hc
    omega
theorem PutR.put {k : Cd} {s0 s : List Bool × List Nat} {new : Bool} (h : PutR k s0 new s) {g x : Nat} (hx : x < s.1.length) (hx2 : x < s.2.length) (hl : s.2.length = k.ins.length) (hxs : ∀ i, gt (lput g s x).2 i < 64) : PutR k s0 (new || chg g s.1 s.2 x) (lput g s x) := by
  cases hc : chg g s.1 s.2 x
  · rw [chg_no hc hx hx2, Bool.or_false]; exact h
  · rw [Bool.or_true]
    refine ⟨fun h => by simp at h, fun _ => ?_⟩
    have h1 := chg_yes (k := k) hc hx hx2 hl hxs
    cases new
    · rw [← h.no rfl]; exact h1
    · exact Nat.lt_trans h1 (h.yes rfl)
/-- What is kept is right so far; the places of the roots in rs are marked. -/
structure LookR (k : Cd) (rs : List Nat) (s : List Bool × List Nat) : Prop where
  len : s.1.length = k.ins.length
  snd : ∀ a, mkd s.1 a = true → MetP k a
  root : ∀ r ∈ rs, mkd s.1 (ent k r) = true
  may : MayS k s.2
theorem lookR0 (k : Cd) : LookR k [] (List.replicate k.ins.length false, List.replicate k.ins.length 0) :=
  ⟨by simp, fun a h => by rw [mkd_replicate] at h; simp at h, fun r h => by simp at h, by simp, fun a b h => by
    exfalso
    rcases Nat.lt_or_ge a k.ins.length with h1 | h1
    · rw [gt_replicate h1] at h; simp at h
    · rw [gt_none (by simpa using h1)] at h; simp at h⟩
theorem LookR.put {k : Cd} {rs : List Nat} {s : List Bool × List Nat} (h : LookR k rs s) (hr : Right k) {r : Nat} (hrt : RootP k r) : LookR k (rs ++ [r]) (lput 0 s (ent k r)) := by
  have hel := ent_lt hr (root_lt hr hrt)
  refine ⟨by simp [lput, h.len], fun a ha => ?_, fun q hq => ?_, h.may.step (g := 0) fun b hb => by simp at hb⟩
  · have ha : mkd (s.1.set (ent k r) true) a = true := ha
    rw [mkd_set (by rw [h.len]; exact hel)] at ha
    split at ha
    · rename_i e; subst e; exact .root hrt
    · exact h.snd a ha
  · show mkd (s.1.set (ent k r) true) (ent k q) = true
    rw [mkd_set (by rw [h.len]; exact hel)]
    split
    · rfl
    · rename_i e
      rcases List.mem_append.1 hq with h1 | h1
      · exact h.root q h1
      · exact absurd (by rw [List.mem_singleton.1 h1]) e
theorem bhd_lt {k : Cd} (hr : Right k) {j h : Nat} (hj : j < k.ins.length) (hh : h < 64) : bhd (opN k j) (argN k j) h < 64 := by
  unfold bhd
  split
  · rename_i h6
    have h1 := argN_lt6 hr hj (.inl h6)
    have h2 := hr.locks
    have h3 : 2 ^ argN k j < 2 ^ 6 := Nat.pow_lt_pow_right (by omega) (by omega)
    exact (Nat.or_lt_two_pow (n := 6) hh h3 : _ < 2 ^ 6)
  · split
    · exact Nat.lt_of_le_of_lt (andNot_le _ _) hh
    · exact hh
theorem LookR.full {k : Cd} (hr : Right k) {s : List Bool × List Nat} (h : LookR k (listN k.procs.length (RootP k)) s) : LookS k s :=
  ⟨⟨h.len, h.snd, fun r hrt => h.root r (mem_listN.2 ⟨root_lt hr hrt, hrt⟩)⟩, h.may⟩

/-- What the reference's look answers. -/
def LookNew (w : World) (v : CV) (k : Cd) (e : Ending) (w' : World) : Prop :=
  ∃ g gm gx, e = .returned (.pointer (some ⟨g, 0, none⟩)) ∧ LK w' w.heap.size g gm gx v k (markL k.ins.length (MetP k)) (mayN k) false ∧ Below w.heap.size w w'

set_option maxRecDepth 100000 in
set_option maxHeartbeats 16000000 in
theorem l16All_any {B L : Nat} (v : CV) (k : Cd) (w : World) (hr : Right k) (hk : CodeAt w B v k) (hcb : CdB L k) (hL : L ≤ 1048576) :
    Calls Tryz.prog 121 #[.agg #[.slice v.gA k.globals.length v.gc, .slice v.lA k.locks.length v.lc, .slice v.pA k.procs.length v.pc, .slice v.eA k.entry.length v.ec, .slice v.iA k.ins.length v.ic]] w (LookNew w v k) := by
  have hkf := hk.full
  have hbx := codeBox w v k
  have hpl := hr.procs
  have hins := hr.ins
  have hmkb := run_make_row' (P := Tryz.prog) 87 4 (.bool false) 1 Tryz.underlying87 info_bool rfl .i64 .i64 k.ins.length (by omega) (by omega)
  have hmki := run_make_row' (P := Tryz.prog) 25 3 (.int .i64 0) 8 Tryz.underlying25 info_int rfl .i64 .i64 k.ins.length (by omega) (by omega)
  have HRT := Lib.hid (fun W (h : CodeAt W w.heap.size v k) => l14Roots_any v k W hr h)
  have HMK := Lib.hid (fun A c W B' (h : Rd W B' A ((markL k.procs.length (RootP k)).map bv)) => (show Calls Tryz.prog 109 #[.slice A (markL k.procs.length (RootP k)).length c] W (NewNats W (listN k.procs.length (RootP k))) from by
    have HD := l09Marked_any A c (markL k.procs.length (RootP k)) W h (by rw [markL_len]; omega)
    rw [listN_markL] at HD
    exact HD))
  have HR := Lib.hid hr
  have HCB := Lib.hid hcb
  have HEL := Lib.hid hr.entry
  have HNXT := Lib.hid (fun a (ha : a < k.ins.length) W (h : CodeAt W w.heap.size v k) => l09Next_any v k a W hr h ha)
  have HEN := Lib.hid (fun p (hp : p < k.procs.length) W (h : CodeAt W w.heap.size v k) => l08End_right v k p W hr h hcb hL hp)
  clear hk hr hcb
  go_enter Tryz.func121, Tryz.ntmps121
  go_upto_region 1 with (fail)
  generalize w.alloc (.cells #[.slice v.gA k.globals.length v.gc, .slice v.lA k.locks.length v.lc, .slice v.pA k.procs.length v.pc, .slice v.eA k.entry.length v.ec, .slice v.iA k.ins.length v.ic] 28) = W at hbx ⊢
  obtain ⟨q1, q2, c0, c1, c2, c3, c4⟩ := id hbx
  go_cut [3] from 12 to 22 (fun p w' => Made2 W v k p w')
  case first =>
    go_region
    all_goals go_wp2_with fail
    all_goals go_meet
    all_goals first
      | exact made2_of (by omega) rfl rfl (.inl ⟨rfl, rfl, rfl, rfl⟩) rfl
      | exact made2_of (by omega) rfl rfl (.inr ⟨rfl, rfl, rfl, rfl⟩) rfl
  case rest =>
    obtain ⟨g, gm, gx, rfl, hLK, hbc⟩ := hcut
    have hbx1 := hbx.to hbc
    have hWs := hbx.2.1
    have hW0 := hbx.1
    clear hmkb hmki q1 q2 c0 c1 c2 c3 c4
    obtain ⟨q1, q2, c0, c1, c2, c3, c4⟩ := id hbx1
    go_wp2_with fail
    refine (HRT.out _ (hkf.below q1)).mono ?_
    rintro e w2 ⟨Ar, cr, rfl, hor, hb2⟩
    go_wp2_with fail
    refine (HMK.out Ar cr w2 _ (own_rd hor)).mono ?_
    rintro e w3 ⟨As, cs, rfl, hos, hb3⟩
    have hL2 := hLK.below hb2
    have hgb : g < w2.heap.size ∧ gm < w2.heap.size ∧ gx < w2.heap.size := ⟨hL2.lt, (own_lt hL2.rm).2, (own_lt hL2.rx).2⟩
    have HGB := Lib.hid hgb
    have hgl : W.heap.size ≤ g ∧ W.heap.size ≤ gm ∧ W.heap.size ≤ gx := ⟨hLK.lo, (own_lt hLK.rm).1, (own_lt hLK.rx).1⟩
    have HGL := Lib.hid hgl
    have hL3 := hL2.below hb3
    have hbx3 := (hbx1.to hb2).to hb3
    have hs3 : W.heap.size ≤ w3.heap.size := by
      have h1 := hbc.size
      have h2 := hb2.size
      have h3 := hb3.size
      omega
    have HT3 := Lib.hid (fun wr (h : Tch g gm gx w3 wr) => hbx3.at (h.below hs3 hgl.1 hgl.2.1 hgl.2.2) (by omega))
    have HRS := Lib.hid (show ∀ r ∈ listN k.procs.length (RootP k), RootP k r from fun r hrr => (mem_listN.1 hrr).2)
    have hrl := listN_len k.procs.length (RootP k)
    have hb3W : Below W.heap.size W w3 := hbc.trans ((hb2.mono hbc.size).trans (hb3.mono (by have := hbc.size; have := hb2.size; omega)))
    have HB3 := Lib.hid hb3W
    generalize hrs : listN k.procs.length (RootP k) = rs at *
    have HRSE := Lib.hid hrs
    clear hrs q1 q2 c0 c1 c2 c3 c4 hbx1 hL2 hLK hb2 hb3 hor hgb hgl hbc hb3W
    go_wp2_with fail
    go_loopg [5] rs.length (fun l i wr => ∃ (j : Nat) (s : List Bool × List Nat), j ≤ rs.length ∧ l = rs.length - j ∧ i = .int .i64 j ∧ LK wr W.heap.size g gm gx v k s.1 s.2 true ∧ LookR k (rs.take j) s ∧ Tch g gm gx w3 wr ∧ wr.ownsRow w2.heap.size 3 1 (.slice As rs.length cs) rs.length (nv rs))
    case atStart => exact ⟨0, _, by omega, by omega, rfl, hL3, lookR0 k, Tch.refl _ _ _ _, hos⟩
    case round =>
      clear hL3 hos
      obtain ⟨j, s, hj, rfl, rfl, hL, hLR, hT, hos⟩ := hrel
      have hbxr := HT3.out _ hT
      obtain ⟨q1, q2, c0, c1, c2, c3, c4⟩ := id hbxr
      by_cases hlt : j < rs.length
      · obtain ⟨adr, rfl, _, hcr⟩ := (own_rd hos).nat hlt
        have HRT1 := Lib.hid (HRS.out rs[j] (List.getElem_mem hlt))
        have hrp := root_lt HR.out HRT1.out
        have HTK := Lib.hid (show rs.take (j + 1) = rs.take j ++ [rs[j]] from by rw [List.take_succ_eq_append_getElem hlt])
        generalize rs[j] = r at *
        have hpe : r < k.entry.length := by have := HEL.out; omega
        obtain ⟨ade, ee, hbe, hce⟩ := entry_cell HR.out (hkf.below q1).full hrp
        rw [ee] at c3
        clear ee
        have z1 : (0 : Int) ≤ (j : Int) := by omega
        have z2 : (j : Int) < (rs.length : Int) := by omega
        have y1 : (0 : Int) ≤ (r : Int) := by omega
        have y2 : (r : Int) < (k.entry.length : Int) := by omega
        go_wp2_with fail
        go_still_tail 9, (by kernel_rfl)
        change wpList _ _ _ _ _ wr.drew
        have hLD := hL.below (Below.refl wr.heap.size wr).drew
        have hosD : wr.drew.ownsRow w2.heap.size 3 1 (.slice (some adr) rs.length cs) rs.length (nv rs) := hos
        have hTD : Tch g gm gx w3 wr.drew := hT.drew
        have HRN := Lib.hid (hLR.put HR.out HRT1.out)
        have hel := ent_lt HR.out hrp
        have hgt := hLR.may.lt HR.out (ent k r)
        have HPT := Lib.hid (show Calls Tryz.prog 177 #[.pointer (some ⟨g, 0, none⟩), .int .i64 (ent k r), .int .i64 0] wr.drew fun e w' => e = .returned (.tuple #[]) ∧ LK w' W.heap.size g gm gx v k (lput 0 s (ent k r)).1 (lput 0 s (ent k r)).2 true ∧ Tch g gm gx wr.drew w' from l16Put_any g gm gx v k (ent k r) 0 s.1 s.2 true wr.drew hLD hel hins (by omega) hgt)
        clear hLD hL hLR hos hT c0 c1 c2 c3 c4 q1 q2 hce hcr hbxr
        generalize wr.drew = wd at *
        go_wp2_with fail
        refine HPT.out.mono ?_
        rintro e w5 ⟨rfl, hL5, hT5⟩
        go_wp2_with fail
        go_roundg (rs.length - (j + 1))
        case measure => omega
        case rel => exact ⟨j + 1, _, by omega, rfl, by go_num, hL5, by rw [HTK.out]; exact HRN.out, hTD.trans hT5, hT5.own hosD HGB.out.1 HGB.out.2.1 HGB.out.2.2⟩
      · obtain rfl : j = rs.length := by omega
        rw [List.take_length, ← HRSE.out] at hLR
        have hS0 := hLR.full HR.out
        clear c0 c1 c2 c3 c4 q1 q2 hbxr hos hLR
        go_wp2_with fail
        obtain ⟨wo, rfl⟩ : ∃ wo : World, wo = wr := ⟨_, rfl⟩
        go_loopg [6] (2 * room k s + 1) (fun l i wr => ∃ (s : List Bool × List Nat) (new : Bool), LK wr W.heap.size g gm gx v k s.1 s.2 new ∧ LookS k s ∧ (new = false → (List.range k.ins.length).foldl (lplace k) s = s) ∧ l = 2 * room k s + (if new then 1 else 0) ∧ Tch g gm gx w3 wr)
        case atStart => exact ⟨s, true, hL, hS0, by simp, rfl, hT⟩
        case round =>
          clear hL hS0 hT
          obtain ⟨s0, new, hL, hS, hfx, rfl, hT⟩ := hrel
          have HFX := Lib.hid hfx
          clear hfx
          have c7 := hL.cell 7 rfl
          have f7 := hL.free 7
          cases new
          · have hfin := hS.stop HR.out (HFX.out rfl)
            subst hfin
            go_wp2_with fail
            go_ret
            have hb4 := hT.below hs3 HGL.out.1 HGL.out.2.1 HGL.out.2.2
            exact ⟨g, gm, gx, rfl, ⟨hL.blk, own_mono hL.rm (by omega), own_mono hL.rx (by omega), hL.ne, Nat.le_trans (by omega) HGL.out.1⟩, hW0.trans ((HB3.out.trans hb4).mono (by omega))⟩
          · have hLs := hL.say false
            have hTs := hT.set (a := ⟨g, 7, none⟩) (.inl rfl) (.bool false)
            go_wp2_with fail
            clear c7 f7 hL hT HFX
            generalize wr.setCell ⟨g, 7, none⟩ (.bool false) = wj at *
            obtain ⟨wo, rfl⟩ : ∃ wo : World, wo = wr := ⟨_, rfl⟩
            go_loopg [6] k.ins.length (fun l i wr => ∃ (j : Nat) (t : List Bool × List Nat) (nw : Bool), j ≤ k.ins.length ∧ l = k.ins.length - j ∧ i = .int .i64 j ∧ LK wr W.heap.size g gm gx v k t.1 t.2 nw ∧ LookS k t ∧ PutR k s0 nw t ∧ t = (List.range j).foldl (lplace k) s0 ∧ Tch g gm gx w3 wr)
            case atStart => exact ⟨0, s0, false, by omega, by omega, rfl, hLs, hS, PutR.refl _ _, rfl, hTs⟩
            case round =>
              clear hLs hS hTs
              obtain ⟨j, s, nw0, hj, rfl, rfl, hL, hS, hP, hfo, hT⟩ := hrel
              have HFO := Lib.hid hfo
              clear hfo
              have hbxr := HT3.out _ hT
              obtain ⟨q1, q2, c0, c1, c2, c3, c4⟩ := id hbxr
              by_cases hlt : j < k.ins.length
              · have hml := hL.mlen
                have hxlen := hL.xlen
                have cm := own_at hL.rm (j := j) hlt (u := .bool (mkd s.1 j)) (by rw [List.getElem?_map, List.getElem?_eq_getElem (by omega), mkd_get (by omega)]; rfl)
                have cx := own_at hL.rx (j := j) hlt (nv_get (gt_some (xs := s.2) (by omega)))
                have HML := Lib.hid hml
                have HXL := Lib.hid hxlen
                clear hml hxlen
                have c5 := hL.cell 5 rfl
                have c6 := hL.cell 6 rfl
                have z1 : (0 : Int) ≤ (j : Int) := by omega
                have z2 : (j : Int) < (k.ins.length : Int) := by omega
                cases hmk : mkd s.1 j
                · rw [hmk] at cm
                  have HEQ := Lib.hid (show lplace k s j = s from by unfold lplace; rw [if_neg (by rw [hmk]; simp)])
                  clear hmk
                  go_wp2_with fail
                  go_roundg (k.ins.length - (j + 1))
                  case measure => omega
                  case rel => exact ⟨j + 1, s, nw0, by omega, rfl, by go_num, hL, hS, hP, by rw [List.range_succ, List.foldl_append, ← HFO.out]; exact HEQ.out.symm, hT⟩
                · rw [hmk] at cm
                  have hmet := hS.met.snd j hmk
                  obtain ⟨ai, A', c', eA, hbi, k0, k1, k2, k3, k4, k5, k6, _⟩ := (hkf.below q1).full.i.get hlt
                  have HEA := Lib.hid eA
                  rw [eA] at c4
                  clear eA
                  rw [opN_eq hlt] at k0
                  rw [argN_eq HR.out hlt] at k1
                  have hhl := hS.may.lt HR.out j
                  by_cases h4 : opN k j = 4
                  · have hpp := argN_lt HR.out hlt (.inl h4)
                    have hel := ent_lt HR.out hpp
                    have hfl := HR.out.lt _ hpp
                    have hgl := hL.lt
                    have hgml := (own_lt hL.rm).2
                    have hgxl := (own_lt hL.rx).2
                    obtain ⟨ade, ee, hbe, hce⟩ := entry_cell HR.out (hkf.below q1).full hpp
                    rw [ee] at c3
                    clear ee
                    have hpe : argN k j < k.entry.length := by have := HEL.out; omega
                    have y1 : (0 : Int) ≤ (argN k j : Int) := by omega
                    have y2 : (argN k j : Int) < (k.entry.length : Int) := by omega
                    have hS1 := hS.put (n := ent k (argN k j)) (g := gt s.2 j) (.call hmet h4) fun b hb => .call (hS.may.snd j b hb) h4
                    have hP1 := hP.put (g := gt s.2 j) (x := ent k (argN k j)) (by rw [HML.out]; exact hel) (by rw [HXL.out]; exact hel) HXL.out (fun i => hS1.may.lt HR.out i)
                    have HEQ0 := Lib.hid (show mkd (lput (gt s.2 j) s (ent k (argN k j))).1 (fin k (argN k j) - 1) = false → lplace k s j = lput (gt s.2 j) s (ent k (argN k j)) from fun h => by unfold lplace; rw [if_pos hmk, if_pos h4, if_neg (by rw [h]; simp)])
                    have HEQ1 := Lib.hid (show mkd (lput (gt s.2 j) s (ent k (argN k j))).1 (fin k (argN k j) - 1) = true → (nextL k j).foldl (lput (gt (lput (gt s.2 j) s (ent k (argN k j))).2 (fin k (argN k j) - 1))) (lput (gt s.2 j) s (ent k (argN k j))) = lplace k s j from fun h => by unfold lplace; rw [if_pos hmk, if_pos h4, if_pos h])
                    have HNX1 := Lib.hid (show mkd (lput (gt s.2 j) s (ent k (argN k j))).1 (fin k (argN k j) - 1) = true → ∀ y ∈ nextL k j, y < k.ins.length ∧ MetP k y ∧ ∀ b, (gt (lput (gt s.2 j) s (ent k (argN k j))).2 (fin k (argN k j) - 1)).testBit b = true → MayP k b y from fun h y hy => ⟨(nextL_in HR.out hlt hy).1, .back hmet h4 (hS1.met.snd _ h) hy, fun b hb => .back hmet h4 (hS1.may.snd _ b hb) hy⟩)
                    have hgte := hS.may.lt HR.out (ent k (argN k j))
                    rw [h4] at k0
                    have e6 : ((4 : Int) == 6) = false := by decide
                    have e7 : ((4 : Int) == 7) = false := by decide
                    clear hmk hmet h4
                    have a6 := cell_below (below_alloc0 wr (.cells #[.int .i64 4, .int .i64 (argN k j), .int .i64 k.ins[j].term.kind, .int .i64 k.ins[j].term.num, .string k.ins[j].term.name, .slice A' k.ins[j].term.kids.length c', .int .i64 k.ins[j].to] 52)) c6
                    have ax := cell_below (below_alloc0 wr (.cells #[.int .i64 4, .int .i64 (argN k j), .int .i64 k.ins[j].term.kind, .int .i64 k.ins[j].term.num, .string k.ins[j].term.name, .slice A' k.ins[j].term.kids.length c', .int .i64 k.ins[j].to] 52)) cx
                    have a0 := cell_below (below_alloc0 wr (.cells #[.int .i64 4, .int .i64 (argN k j), .int .i64 k.ins[j].term.kind, .int .i64 k.ins[j].term.num, .string k.ins[j].term.name, .slice A' k.ins[j].term.kids.length c', .int .i64 k.ins[j].to] 52)) c0
                    have a1 := cell_below (below_alloc0 wr (.cells #[.int .i64 4, .int .i64 (argN k j), .int .i64 k.ins[j].term.kind, .int .i64 k.ins[j].term.num, .string k.ins[j].term.name, .slice A' k.ins[j].term.kids.length c', .int .i64 k.ins[j].to] 52)) c1
                    have a2 := cell_below (below_alloc0 wr (.cells #[.int .i64 4, .int .i64 (argN k j), .int .i64 k.ins[j].term.kind, .int .i64 k.ins[j].term.num, .string k.ins[j].term.name, .slice A' k.ins[j].term.kids.length c', .int .i64 k.ins[j].to] 52)) c2
                    have a3 := cell_below (below_alloc0 wr (.cells #[.int .i64 4, .int .i64 (argN k j), .int .i64 k.ins[j].term.kind, .int .i64 k.ins[j].term.num, .string k.ins[j].term.name, .slice A' k.ins[j].term.kids.length c', .int .i64 k.ins[j].to] 52)) c3
                    have a4 := cell_below (below_alloc0 wr (.cells #[.int .i64 4, .int .i64 (argN k j), .int .i64 k.ins[j].term.kind, .int .i64 k.ins[j].term.num, .string k.ins[j].term.name, .slice A' k.ins[j].term.kids.length c', .int .i64 k.ins[j].to] 52)) c4
                    have ae := cell_below (below_alloc0 wr (.cells #[.int .i64 4, .int .i64 (argN k j), .int .i64 k.ins[j].term.kind, .int .i64 k.ins[j].term.num, .string k.ins[j].term.name, .slice A' k.ins[j].term.kids.length c', .int .i64 k.ins[j].to] 52)) hce
                    have ca1 := box_cell wr #[.int .i64 4, .int .i64 (argN k j), .int .i64 k.ins[j].term.kind, .int .i64 k.ins[j].term.num, .string k.ins[j].term.name, .slice A' k.ins[j].term.kids.length c', .int .i64 k.ins[j].to] 52 1 rfl
                    go_wp2_with fail
                    have hba := below_alloc0 wr (.cells #[.int .i64 4, .int .i64 (argN k j), .int .i64 k.ins[j].term.kind, .int .i64 k.ins[j].term.num, .string k.ins[j].term.name, .slice A' k.ins[j].term.kids.length c', .int .i64 k.ins[j].to] 52)
                    generalize wr.alloc (.cells #[.int .i64 4, .int .i64 (argN k j), .int .i64 k.ins[j].term.kind, .int .i64 k.ins[j].term.num, .string k.ins[j].term.name, .slice A' k.ins[j].term.kids.length c', .int .i64 k.ins[j].to] 52) = wa at hba ca1 ⊢
                    have hLa := hL.below hba
                    have hTa := hT.trans (Tch.of_below hba)
                    clear ae hce a6 ax a0 a1 a2 a3 a4 c0 c1 c2 c3 c4 c5 c6 cm cx k0 k1 k2 k3 k4 k5 k6 q1 q2 hbxr hL hT hba
                    have hr1 : wr.heap.size ≠ g ∧ wr.heap.size ≠ gm ∧ wr.heap.size ≠ gx := by omega
                    have HPT := Lib.hid (l16Put_any g gm gx v k (ent k (argN k j)) (gt s.2 j) s.1 s.2 nw0 wa hLa hel hins hhl hgte)
                    refine HPT.out.mono ?_
                    rintro e w5 ⟨rfl, hL5, hT5⟩
                    have ca5 : w5.cell? ⟨wr.heap.size, 1, none⟩ = some (.int .i64 (argN k j)) := (World.cell?_of_block (hT5.block _ (World.block_lt_of_cell? wa _ ca1) hr1.1 hr1.2.1 hr1.2.2)).trans ca1
                    have hL5 : LK w5 W.heap.size g gm gx v k (lput (gt s.2 j) s (ent k (argN k j))).1 (lput (gt s.2 j) s (ent k (argN k j))).2 (nw0 || chg (gt s.2 j) s.1 s.2 (ent k (argN k j))) := hL5
                    have hTa5 := hTa.trans hT5
                    clear hLa hTa hT5 ca1 HPT hr1
                    generalize lput (gt s.2 j) s (ent k (argN k j)) = s1 at *
                    generalize (nw0 || chg (gt s.2 j) s.1 s.2 (ent k (argN k j))) = nw1 at *
                    have hbx5 := HT3.out _ hTa5
                    obtain ⟨q1, q2, c0, c1, c2, c3, c4⟩ := id hbx5
                    go_wp2_with fail
                    refine (HEN.out _ hpp _ (hkf.below q1)).mono ?_
                    rintro e w6 ⟨rfl, hb6⟩
                    have hLa := hL5.below hb6
                    have hTa := hTa5.trans (Tch.of_below hb6)
                    clear c0 c1 c2 c3 c4 q1 q2 hbx5 hL5 hTa5 hb6 ca5
                    have hfe : fin k (argN k j) - 1 < k.ins.length := by omega
                    generalize fin k (argN k j) - 1 = fe at *
                    have hhf := hS1.may.lt HR.out fe
                    have cm6 := own_at hLa.rm (j := fe) hfe (u := .bool (mkd s1.1 fe)) (by rw [List.getElem?_map, List.getElem?_eq_getElem (by rw [hLa.mlen]; exact hfe), mkd_get (by rw [hLa.mlen]; exact hfe)]; rfl)
                    have cx6 := own_at hLa.rx (j := fe) hfe (nv_get (gt_some (xs := s1.2) (by rw [hLa.xlen]; exact hfe)))
                    have c5 := hLa.cell 5 rfl
                    have c6 := hLa.cell 6 rfl
                    have y3 : (0 : Int) ≤ (fe : Int) := by omega
                    have y4 : (fe : Int) < (k.ins.length : Int) := by omega
                    cases hme : mkd s1.1 fe
                    · rw [hme] at cm6
                      have HEQ := Lib.hid (HEQ0.out hme)
                      clear hme
                      go_wp2_with fail
                      go_roundg (k.ins.length - (j + 1))
                      case measure => omega
                      case rel => exact ⟨j + 1, s1, nw1, by omega, rfl, by go_num, hLa, hS1, hP1, by rw [List.range_succ, List.foldl_append, ← HFO.out]; exact HEQ.out.symm, hTa⟩
                    · rw [hme] at cm6
                      have HEQ := Lib.hid (HEQ1.out hme)
                      have HNX := Lib.hid (HNX1.out hme)
                      have hh := hhf
                      clear hme HEQ0 HEQ1 HNX1
                      generalize gt s1.2 fe = h at *
                      have hSa := hS1
                      have hPa := hP1
                      clear hS1 hP1 hS hP
                      have hbxa := HT3.out _ hTa
                      obtain ⟨q1, q2, c0, c1, c2, c3, c4⟩ := id hbxa
                      go_wp2_with fail
                      refine (HNXT.out j hlt _ (hkf.below q1)).mono ?_
                      rintro e w9 ⟨An, cn, rfl, hon, hb9⟩
                      obtain ⟨l9, h9, hon⟩ : ∃ l9, (g < l9 ∧ gm < l9 ∧ gx < l9) ∧ w9.ownsRow l9 3 1 (.slice An (nextL k j).length cn) (nextL k j).length (nv (nextL k j)) := ⟨_, ⟨hLa.lt, (own_lt hLa.rm).2, (own_lt hLa.rx).2⟩, hon⟩
                      have HG9 := Lib.hid h9
                      have hL1 := hLa.below hb9
                      have hT1 := hTa.trans (Tch.of_below hb9)
                      have hnl := nextL_len k j
                      generalize nextL k j = ns at hon HEQ HNX hnl ⊢
                      clear q1 q2 c0 c1 c2 c3 c4 hb9 hLa hTa h9 hbxa
                      go_wp2_with fail
                      obtain ⟨wo, rfl⟩ : ∃ wo : World, wo = wr := ⟨_, rfl⟩
                      go_loopg [11] ns.length (fun l i wr => ∃ (m : Nat) (t : List Bool × List Nat) (nw : Bool), m ≤ ns.length ∧ l = ns.length - m ∧ i = .int .i64 m ∧ LK wr W.heap.size g gm gx v k t.1 t.2 nw ∧ LookS k t ∧ PutR k s0 nw t ∧ t = (ns.take m).foldl (lput h) s1 ∧ Tch g gm gx w3 wr ∧ wr.ownsRow l9 3 1 (.slice An ns.length cn) ns.length (nv ns))
                      case atStart => exact ⟨0, s1, nw1, by omega, by omega, rfl, hL1, hSa, hPa, rfl, hT1, hon⟩
                      case round =>
                        clear hL1 hSa hPa hT1 hon
                        obtain ⟨m, t, nw, hm, rfl, rfl, hL2, hS2, hP2, ht, hT2, hon⟩ := hrel
                        have HTT := Lib.hid ht
                        clear ht
                        by_cases hltm : m < ns.length
                        · obtain ⟨adn, rfl, hbn, hcn⟩ := (own_rd hon).nat hltm
                          obtain ⟨hxl, hmet, hmay⟩ := HNX.out ns[m] (List.getElem_mem hltm)
                          have HMY := Lib.hid hmay
                          have HMT := Lib.hid hmet
                          clear hmay hmet
                          have HST := Lib.hid (fold_take (lput h) ns s1 hltm)
                          generalize ns[m] = y at *
                          have hgt := hS2.may.lt HR.out y
                          have HPT := Lib.hid (l16Put_any g gm gx v k y h t.1 t.2 nw wr hL2 hxl hins hh hgt)
                          have hSn := hS2.put HMT.out (g := h) HMY.out
                          have hPn := hP2.put (g := h) (x := y) (by rw [hL2.mlen]; exact hxl) (by rw [hL2.xlen]; exact hxl) hL2.xlen (fun i => hSn.may.lt HR.out i)
                          have HS3 := Lib.hid hSn
                          have HP3 := Lib.hid hPn
                          have z1 : (0 : Int) ≤ (m : Int) := by omega
                          have z2 : (m : Int) < (ns.length : Int) := by omega
                          clear hSn hPn hL2 hS2 hP2
                          go_wp2_with fail
                          refine HPT.out.mono ?_
                          rintro e w10 ⟨rfl, hL3, hT3⟩
                          go_wp2_with fail
                          go_roundg (ns.length - (m + 1))
                          case measure => omega
                          case rel => exact ⟨m + 1, lput h t y, nw || chg h t.1 t.2 y, by omega, rfl, by go_num, hL3, HS3.out, HP3.out, by rw [HST.out, ← HTT.out], hT2.trans hT3, hT3.own hon HG9.out.1 HG9.out.2.1 HG9.out.2.2⟩
                        · obtain rfl : m = ns.length := by omega
                          go_wp2_with fail
                          go_roundg (k.ins.length - (j + 1))
                          case measure => omega
                          case rel =>
                            have e1 : t = lplace k s j := by rw [HTT.out, List.take_length]; exact HEQ.out
                            have e2 : t = (List.range (j + 1)).foldl (lplace k) s0 := by rw [List.range_succ, List.foldl_append, ← HFO.out]; exact e1
                            exact ⟨j + 1, t, nw, by omega, rfl, by go_num, hL2, hS2, hP2, e2, hT2⟩
                  · have HEQ := Lib.hid (show (nextL k j).foldl (lput (bhd (opN k j) (argN k j) (gt s.2 j))) s = lplace k s j from by unfold lplace; rw [if_pos hmk, if_neg h4])
                    have HNX := Lib.hid (show ∀ y ∈ nextL k j, y < k.ins.length ∧ MetP k y ∧ ∀ b, (bhd (opN k j) (argN k j) (gt s.2 j)).testBit b = true → MayP k b y from fun y hy => ⟨(nextL_in HR.out hlt hy).1, .next hmet h4 hy, fun b hb => bhd_may hS.may HR.out hmet h4 hy hb⟩)
                    have hh := bhd_lt HR.out hlt hhl
                    have e4 : (opN k j == 4) = false := by simpa using h4
                    clear hmk hmet
                    by_cases h6 : opN k j = 6
                    · have hal := argN_lt6 HR.out hlt (.inl h6)
                      have hlk := HR.out.locks
                      have HSV := Lib.hid (show bits .or .i64 (gt s.2 j : Int) ((2 : Int) ^ argN k j) = ((bhd (opN k j) (argN k j) (gt s.2 j) : Nat) : Int) from by rw [bhd, if_pos h6]; exact or_bit64 _ _ (by omega) (by omega))
                      rw [h6] at k0
                      have HB := Lib.hid (fun W => l12Bit_any (argN k j) W (by omega))
                      clear h6 h4 e4
                      generalize bhd (opN k j) (argN k j) (gt s.2 j) = h at *
                      have a6 := cell_below (below_alloc0 wr (.cells #[.int .i64 6, .int .i64 (argN k j), .int .i64 k.ins[j].term.kind, .int .i64 k.ins[j].term.num, .string k.ins[j].term.name, .slice A' k.ins[j].term.kids.length c', .int .i64 k.ins[j].to] 52)) c6
                      have ax := cell_below (below_alloc0 wr (.cells #[.int .i64 6, .int .i64 (argN k j), .int .i64 k.ins[j].term.kind, .int .i64 k.ins[j].term.num, .string k.ins[j].term.name, .slice A' k.ins[j].term.kids.length c', .int .i64 k.ins[j].to] 52)) cx
                      have a0 := cell_below (below_alloc0 wr (.cells #[.int .i64 6, .int .i64 (argN k j), .int .i64 k.ins[j].term.kind, .int .i64 k.ins[j].term.num, .string k.ins[j].term.name, .slice A' k.ins[j].term.kids.length c', .int .i64 k.ins[j].to] 52)) c0
                      have a1 := cell_below (below_alloc0 wr (.cells #[.int .i64 6, .int .i64 (argN k j), .int .i64 k.ins[j].term.kind, .int .i64 k.ins[j].term.num, .string k.ins[j].term.name, .slice A' k.ins[j].term.kids.length c', .int .i64 k.ins[j].to] 52)) c1
                      have a2 := cell_below (below_alloc0 wr (.cells #[.int .i64 6, .int .i64 (argN k j), .int .i64 k.ins[j].term.kind, .int .i64 k.ins[j].term.num, .string k.ins[j].term.name, .slice A' k.ins[j].term.kids.length c', .int .i64 k.ins[j].to] 52)) c2
                      have a3 := cell_below (below_alloc0 wr (.cells #[.int .i64 6, .int .i64 (argN k j), .int .i64 k.ins[j].term.kind, .int .i64 k.ins[j].term.num, .string k.ins[j].term.name, .slice A' k.ins[j].term.kids.length c', .int .i64 k.ins[j].to] 52)) c3
                      have a4 := cell_below (below_alloc0 wr (.cells #[.int .i64 6, .int .i64 (argN k j), .int .i64 k.ins[j].term.kind, .int .i64 k.ins[j].term.num, .string k.ins[j].term.name, .slice A' k.ins[j].term.kids.length c', .int .i64 k.ins[j].to] 52)) c4
                      go_wp2_with fail
                      have hba := below_alloc0 wr (.cells #[.int .i64 6, .int .i64 (argN k j), .int .i64 k.ins[j].term.kind, .int .i64 k.ins[j].term.num, .string k.ins[j].term.name, .slice A' k.ins[j].term.kids.length c', .int .i64 k.ins[j].to] 52)
                      generalize wr.alloc (.cells #[.int .i64 6, .int .i64 (argN k j), .int .i64 k.ins[j].term.kind, .int .i64 k.ins[j].term.num, .string k.ins[j].term.name, .slice A' k.ins[j].term.kids.length c', .int .i64 k.ins[j].to] 52) = wa at hba ⊢
                      have hLa := hL.below hba
                      have hTa := hT.trans (Tch.of_below hba)
                      clear a6 ax a0 a1 a2 a3 a4 c0 c1 c2 c3 c4 c5 c6 cm cx k0 k1 k2 k3 k4 k5 k6 q1 q2 hbxr hL hT hba
                      refine (HB.out _).mono ?_
                      rintro e w5 ⟨rfl, rfl⟩
                      have hbxa := HT3.out _ hTa
                      obtain ⟨q1, q2, c0, c1, c2, c3, c4⟩ := id hbxa
                      go_wp2_with fail
                      rw [HSV.out]
                      refine (HNXT.out j hlt _ (hkf.below q1)).mono ?_
                      rintro e w9 ⟨An, cn, rfl, hon, hb9⟩
                      obtain ⟨l9, h9, hon⟩ : ∃ l9, (g < l9 ∧ gm < l9 ∧ gx < l9) ∧ w9.ownsRow l9 3 1 (.slice An (nextL k j).length cn) (nextL k j).length (nv (nextL k j)) := ⟨_, ⟨hLa.lt, (own_lt hLa.rm).2, (own_lt hLa.rx).2⟩, hon⟩
                      have HG9 := Lib.hid h9
                      have hL1 := hLa.below hb9
                      have hT1 := hTa.trans (Tch.of_below hb9)
                      have hnl := nextL_len k j
                      generalize nextL k j = ns at hon HEQ HNX hnl ⊢
                      clear q1 q2 c0 c1 c2 c3 c4 hb9 hLa hTa h9 hbxa
                      go_wp2_with fail
                      obtain ⟨wo, rfl⟩ : ∃ wo : World, wo = wr := ⟨_, rfl⟩
                      go_loopg [11] ns.length (fun l i wr => ∃ (m : Nat) (t : List Bool × List Nat) (nw : Bool), m ≤ ns.length ∧ l = ns.length - m ∧ i = .int .i64 m ∧ LK wr W.heap.size g gm gx v k t.1 t.2 nw ∧ LookS k t ∧ PutR k s0 nw t ∧ t = (ns.take m).foldl (lput h) s ∧ Tch g gm gx w3 wr ∧ wr.ownsRow l9 3 1 (.slice An ns.length cn) ns.length (nv ns))
                      case atStart => exact ⟨0, s, nw0, by omega, by omega, rfl, hL1, hS, hP, rfl, hT1, hon⟩
                      case round =>
                        clear hL1 hS hP hT1 hon
                        obtain ⟨m, t, nw, hm, rfl, rfl, hL2, hS2, hP2, ht, hT2, hon⟩ := hrel
                        have HTT := Lib.hid ht
                        clear ht
                        by_cases hltm : m < ns.length
                        · obtain ⟨adn, rfl, hbn, hcn⟩ := (own_rd hon).nat hltm
                          obtain ⟨hxl, hmet, hmay⟩ := HNX.out ns[m] (List.getElem_mem hltm)
                          have HMY := Lib.hid hmay
                          have HMT := Lib.hid hmet
                          clear hmay hmet
                          have HST := Lib.hid (fold_take (lput h) ns s hltm)
                          generalize ns[m] = y at *
                          have hgt := hS2.may.lt HR.out y
                          have HPT := Lib.hid (l16Put_any g gm gx v k y h t.1 t.2 nw wr hL2 hxl hins hh hgt)
                          have hSn := hS2.put HMT.out (g := h) HMY.out
                          have hPn := hP2.put (g := h) (x := y) (by rw [hL2.mlen]; exact hxl) (by rw [hL2.xlen]; exact hxl) hL2.xlen (fun i => hSn.may.lt HR.out i)
                          have HS3 := Lib.hid hSn
                          have HP3 := Lib.hid hPn
                          have z1 : (0 : Int) ≤ (m : Int) := by omega
                          have z2 : (m : Int) < (ns.length : Int) := by omega
                          clear hSn hPn hL2 hS2 hP2
                          go_wp2_with fail
                          refine HPT.out.mono ?_
                          rintro e w10 ⟨rfl, hL3, hT3⟩
                          go_wp2_with fail
                          go_roundg (ns.length - (m + 1))
                          case measure => omega
                          case rel => exact ⟨m + 1, lput h t y, nw || chg h t.1 t.2 y, by omega, rfl, by go_num, hL3, HS3.out, HP3.out, by rw [HST.out, ← HTT.out], hT2.trans hT3, hT3.own hon HG9.out.1 HG9.out.2.1 HG9.out.2.2⟩
                        · obtain rfl : m = ns.length := by omega
                          go_wp2_with fail
                          go_roundg (k.ins.length - (j + 1))
                          case measure => omega
                          case rel =>
                            have e1 : t = lplace k s j := by rw [HTT.out, List.take_length]; exact HEQ.out
                            have e2 : t = (List.range (j + 1)).foldl (lplace k) s0 := by rw [List.range_succ, List.foldl_append, ← HFO.out]; exact e1
                            exact ⟨j + 1, t, nw, by omega, rfl, by go_num, hL2, hS2, hP2, e2, hT2⟩
                    · by_cases h7 : opN k j = 7
                      · have hal := argN_lt6 HR.out hlt (.inr h7)
                        have hlk := HR.out.locks
                        have HSV := Lib.hid (show withoutV (gt s.2 j : Int) ((2 : Int) ^ argN k j) = ((bhd (opN k j) (argN k j) (gt s.2 j) : Nat) : Int) from by rw [bhd, if_neg h6, if_pos h7, two_pow_cast, without_nat (by omega) (by omega)])
                        rw [h7] at k0
                        have HB := Lib.hid (fun W => l12Bit_any (argN k j) W (by omega))
                        clear h6 h7 h4 e4
                        generalize bhd (opN k j) (argN k j) (gt s.2 j) = h at *
                        have a6 := cell_below (below_alloc0 wr (.cells #[.int .i64 7, .int .i64 (argN k j), .int .i64 k.ins[j].term.kind, .int .i64 k.ins[j].term.num, .string k.ins[j].term.name, .slice A' k.ins[j].term.kids.length c', .int .i64 k.ins[j].to] 52)) c6
                        have ax := cell_below (below_alloc0 wr (.cells #[.int .i64 7, .int .i64 (argN k j), .int .i64 k.ins[j].term.kind, .int .i64 k.ins[j].term.num, .string k.ins[j].term.name, .slice A' k.ins[j].term.kids.length c', .int .i64 k.ins[j].to] 52)) cx
                        have a0 := cell_below (below_alloc0 wr (.cells #[.int .i64 7, .int .i64 (argN k j), .int .i64 k.ins[j].term.kind, .int .i64 k.ins[j].term.num, .string k.ins[j].term.name, .slice A' k.ins[j].term.kids.length c', .int .i64 k.ins[j].to] 52)) c0
                        have a1 := cell_below (below_alloc0 wr (.cells #[.int .i64 7, .int .i64 (argN k j), .int .i64 k.ins[j].term.kind, .int .i64 k.ins[j].term.num, .string k.ins[j].term.name, .slice A' k.ins[j].term.kids.length c', .int .i64 k.ins[j].to] 52)) c1
                        have a2 := cell_below (below_alloc0 wr (.cells #[.int .i64 7, .int .i64 (argN k j), .int .i64 k.ins[j].term.kind, .int .i64 k.ins[j].term.num, .string k.ins[j].term.name, .slice A' k.ins[j].term.kids.length c', .int .i64 k.ins[j].to] 52)) c2
                        have a3 := cell_below (below_alloc0 wr (.cells #[.int .i64 7, .int .i64 (argN k j), .int .i64 k.ins[j].term.kind, .int .i64 k.ins[j].term.num, .string k.ins[j].term.name, .slice A' k.ins[j].term.kids.length c', .int .i64 k.ins[j].to] 52)) c3
                        have a4 := cell_below (below_alloc0 wr (.cells #[.int .i64 7, .int .i64 (argN k j), .int .i64 k.ins[j].term.kind, .int .i64 k.ins[j].term.num, .string k.ins[j].term.name, .slice A' k.ins[j].term.kids.length c', .int .i64 k.ins[j].to] 52)) c4
                        go_wp2_with fail
                        have hba := below_alloc0 wr (.cells #[.int .i64 7, .int .i64 (argN k j), .int .i64 k.ins[j].term.kind, .int .i64 k.ins[j].term.num, .string k.ins[j].term.name, .slice A' k.ins[j].term.kids.length c', .int .i64 k.ins[j].to] 52)
                        generalize wr.alloc (.cells #[.int .i64 7, .int .i64 (argN k j), .int .i64 k.ins[j].term.kind, .int .i64 k.ins[j].term.num, .string k.ins[j].term.name, .slice A' k.ins[j].term.kids.length c', .int .i64 k.ins[j].to] 52) = wa at hba ⊢
                        have hLa := hL.below hba
                        have hTa := hT.trans (Tch.of_below hba)
                        clear a6 ax a0 a1 a2 a3 a4 c0 c1 c2 c3 c4 c5 c6 cm cx k0 k1 k2 k3 k4 k5 k6 q1 q2 hbxr hL hT hba
                        refine (HB.out _).mono ?_
                        rintro e w5 ⟨rfl, rfl⟩
                        go_wp2_with fail
                        refine (without_s _ _ _).mono ?_
                        rintro e w5 ⟨rfl, rfl⟩
                        have hbxa := HT3.out _ hTa
                        obtain ⟨q1, q2, c0, c1, c2, c3, c4⟩ := id hbxa
                        go_wp2_with fail
                        rw [HSV.out]
                        refine (HNXT.out j hlt _ (hkf.below q1)).mono ?_
                        rintro e w9 ⟨An, cn, rfl, hon, hb9⟩
                        obtain ⟨l9, h9, hon⟩ : ∃ l9, (g < l9 ∧ gm < l9 ∧ gx < l9) ∧ w9.ownsRow l9 3 1 (.slice An (nextL k j).length cn) (nextL k j).length (nv (nextL k j)) := ⟨_, ⟨hLa.lt, (own_lt hLa.rm).2, (own_lt hLa.rx).2⟩, hon⟩
                        have HG9 := Lib.hid h9
                        have hL1 := hLa.below hb9
                        have hT1 := hTa.trans (Tch.of_below hb9)
                        have hnl := nextL_len k j
                        generalize nextL k j = ns at hon HEQ HNX hnl ⊢
                        clear q1 q2 c0 c1 c2 c3 c4 hb9 hLa hTa h9 hbxa
                        go_wp2_with fail
                        obtain ⟨wo, rfl⟩ : ∃ wo : World, wo = wr := ⟨_, rfl⟩
                        go_loopg [11] ns.length (fun l i wr => ∃ (m : Nat) (t : List Bool × List Nat) (nw : Bool), m ≤ ns.length ∧ l = ns.length - m ∧ i = .int .i64 m ∧ LK wr W.heap.size g gm gx v k t.1 t.2 nw ∧ LookS k t ∧ PutR k s0 nw t ∧ t = (ns.take m).foldl (lput h) s ∧ Tch g gm gx w3 wr ∧ wr.ownsRow l9 3 1 (.slice An ns.length cn) ns.length (nv ns))
                        case atStart => exact ⟨0, s, nw0, by omega, by omega, rfl, hL1, hS, hP, rfl, hT1, hon⟩
                        case round =>
                          clear hL1 hS hP hT1 hon
                          obtain ⟨m, t, nw, hm, rfl, rfl, hL2, hS2, hP2, ht, hT2, hon⟩ := hrel
                          have HTT := Lib.hid ht
                          clear ht
                          by_cases hltm : m < ns.length
                          · obtain ⟨adn, rfl, hbn, hcn⟩ := (own_rd hon).nat hltm
                            obtain ⟨hxl, hmet, hmay⟩ := HNX.out ns[m] (List.getElem_mem hltm)
                            have HMY := Lib.hid hmay
                            have HMT := Lib.hid hmet
                            clear hmay hmet
                            have HST := Lib.hid (fold_take (lput h) ns s hltm)
                            generalize ns[m] = y at *
                            have hgt := hS2.may.lt HR.out y
                            have HPT := Lib.hid (l16Put_any g gm gx v k y h t.1 t.2 nw wr hL2 hxl hins hh hgt)
                            have hSn := hS2.put HMT.out (g := h) HMY.out
                            have hPn := hP2.put (g := h) (x := y) (by rw [hL2.mlen]; exact hxl) (by rw [hL2.xlen]; exact hxl) hL2.xlen (fun i => hSn.may.lt HR.out i)
                            have HS3 := Lib.hid hSn
                            have HP3 := Lib.hid hPn
                            have z1 : (0 : Int) ≤ (m : Int) := by omega
                            have z2 : (m : Int) < (ns.length : Int) := by omega
                            clear hSn hPn hL2 hS2 hP2
                            go_wp2_with fail
                            refine HPT.out.mono ?_
                            rintro e w10 ⟨rfl, hL3, hT3⟩
                            go_wp2_with fail
                            go_roundg (ns.length - (m + 1))
                            case measure => omega
                            case rel => exact ⟨m + 1, lput h t y, nw || chg h t.1 t.2 y, by omega, rfl, by go_num, hL3, HS3.out, HP3.out, by rw [HST.out, ← HTT.out], hT2.trans hT3, hT3.own hon HG9.out.1 HG9.out.2.1 HG9.out.2.2⟩
                          · obtain rfl : m = ns.length := by omega
                            go_wp2_with fail
                            go_roundg (k.ins.length - (j + 1))
                            case measure => omega
                            case rel =>
                              have e1 : t = lplace k s j := by rw [HTT.out, List.take_length]; exact HEQ.out
                              have e2 : t = (List.range (j + 1)).foldl (lplace k) s0 := by rw [List.range_succ, List.foldl_append, ← HFO.out]; exact e1
                              exact ⟨j + 1, t, nw, by omega, rfl, by go_num, hL2, hS2, hP2, e2, hT2⟩
                      · have e6 : (opN k j == 6) = false := by simpa using h6
                        have e7 : (opN k j == 7) = false := by simpa using h7
                        rw [show bhd (opN k j) (argN k j) (gt s.2 j) = gt s.2 j from by rw [bhd, if_neg h6, if_neg h7]] at HEQ HNX hh
                        generalize gt s.2 j = h at *
                        clear h4 h6 h7
                        have a6 := cell_below (below_alloc0 wr (.cells #[.int .i64 (opN k j), .int .i64 (argN k j), .int .i64 k.ins[j].term.kind, .int .i64 k.ins[j].term.num, .string k.ins[j].term.name, .slice A' k.ins[j].term.kids.length c', .int .i64 k.ins[j].to] 52)) c6
                        have ax := cell_below (below_alloc0 wr (.cells #[.int .i64 (opN k j), .int .i64 (argN k j), .int .i64 k.ins[j].term.kind, .int .i64 k.ins[j].term.num, .string k.ins[j].term.name, .slice A' k.ins[j].term.kids.length c', .int .i64 k.ins[j].to] 52)) cx
                        have a0 := cell_below (below_alloc0 wr (.cells #[.int .i64 (opN k j), .int .i64 (argN k j), .int .i64 k.ins[j].term.kind, .int .i64 k.ins[j].term.num, .string k.ins[j].term.name, .slice A' k.ins[j].term.kids.length c', .int .i64 k.ins[j].to] 52)) c0
                        have a1 := cell_below (below_alloc0 wr (.cells #[.int .i64 (opN k j), .int .i64 (argN k j), .int .i64 k.ins[j].term.kind, .int .i64 k.ins[j].term.num, .string k.ins[j].term.name, .slice A' k.ins[j].term.kids.length c', .int .i64 k.ins[j].to] 52)) c1
                        have a2 := cell_below (below_alloc0 wr (.cells #[.int .i64 (opN k j), .int .i64 (argN k j), .int .i64 k.ins[j].term.kind, .int .i64 k.ins[j].term.num, .string k.ins[j].term.name, .slice A' k.ins[j].term.kids.length c', .int .i64 k.ins[j].to] 52)) c2
                        have a3 := cell_below (below_alloc0 wr (.cells #[.int .i64 (opN k j), .int .i64 (argN k j), .int .i64 k.ins[j].term.kind, .int .i64 k.ins[j].term.num, .string k.ins[j].term.name, .slice A' k.ins[j].term.kids.length c', .int .i64 k.ins[j].to] 52)) c3
                        have a4 := cell_below (below_alloc0 wr (.cells #[.int .i64 (opN k j), .int .i64 (argN k j), .int .i64 k.ins[j].term.kind, .int .i64 k.ins[j].term.num, .string k.ins[j].term.name, .slice A' k.ins[j].term.kids.length c', .int .i64 k.ins[j].to] 52)) c4
                        go_wp2_with fail
                        have hba := below_alloc0 wr (.cells #[.int .i64 (opN k j), .int .i64 (argN k j), .int .i64 k.ins[j].term.kind, .int .i64 k.ins[j].term.num, .string k.ins[j].term.name, .slice A' k.ins[j].term.kids.length c', .int .i64 k.ins[j].to] 52)
                        generalize wr.alloc (.cells #[.int .i64 (opN k j), .int .i64 (argN k j), .int .i64 k.ins[j].term.kind, .int .i64 k.ins[j].term.num, .string k.ins[j].term.name, .slice A' k.ins[j].term.kids.length c', .int .i64 k.ins[j].to] 52) = wa at hba ⊢
                        have hLa := hL.below hba
                        have hTa := hT.trans (Tch.of_below hba)
                        clear a6 ax a0 a1 a2 a3 a4 c0 c1 c2 c3 c4 c5 c6 cm cx k0 k1 k2 k3 k4 k5 k6 q1 q2 hbxr hL hT hba
                        clear e4 e6 e7
                        have hbxa := HT3.out _ hTa
                        obtain ⟨q1, q2, c0, c1, c2, c3, c4⟩ := id hbxa
                        rw [← HEA.out]
                        refine (HNXT.out j hlt _ (hkf.below q1)).mono ?_
                        rintro e w9 ⟨An, cn, rfl, hon, hb9⟩
                        obtain ⟨l9, h9, hon⟩ : ∃ l9, (g < l9 ∧ gm < l9 ∧ gx < l9) ∧ w9.ownsRow l9 3 1 (.slice An (nextL k j).length cn) (nextL k j).length (nv (nextL k j)) := ⟨_, ⟨hLa.lt, (own_lt hLa.rm).2, (own_lt hLa.rx).2⟩, hon⟩
                        have HG9 := Lib.hid h9
                        have hL1 := hLa.below hb9
                        have hT1 := hTa.trans (Tch.of_below hb9)
                        have hnl := nextL_len k j
                        generalize nextL k j = ns at hon HEQ HNX hnl ⊢
                        clear q1 q2 c0 c1 c2 c3 c4 hb9 hLa hTa h9 hbxa
                        go_wp2_with fail
                        obtain ⟨wo, rfl⟩ : ∃ wo : World, wo = wr := ⟨_, rfl⟩
                        go_loopg [11] ns.length (fun l i wr => ∃ (m : Nat) (t : List Bool × List Nat) (nw : Bool), m ≤ ns.length ∧ l = ns.length - m ∧ i = .int .i64 m ∧ LK wr W.heap.size g gm gx v k t.1 t.2 nw ∧ LookS k t ∧ PutR k s0 nw t ∧ t = (ns.take m).foldl (lput h) s ∧ Tch g gm gx w3 wr ∧ wr.ownsRow l9 3 1 (.slice An ns.length cn) ns.length (nv ns))
                        case atStart => exact ⟨0, s, nw0, by omega, by omega, rfl, hL1, hS, hP, rfl, hT1, hon⟩
                        case round =>
                          clear hL1 hS hP hT1 hon
                          obtain ⟨m, t, nw, hm, rfl, rfl, hL2, hS2, hP2, ht, hT2, hon⟩ := hrel
                          have HTT := Lib.hid ht
                          clear ht
                          by_cases hltm : m < ns.length
                          · obtain ⟨adn, rfl, hbn, hcn⟩ := (own_rd hon).nat hltm
                            obtain ⟨hxl, hmet, hmay⟩ := HNX.out ns[m] (List.getElem_mem hltm)
                            have HMY := Lib.hid hmay
                            have HMT := Lib.hid hmet
                            clear hmay hmet
                            have HST := Lib.hid (fold_take (lput h) ns s hltm)
                            generalize ns[m] = y at *
                            have hgt := hS2.may.lt HR.out y
                            have HPT := Lib.hid (l16Put_any g gm gx v k y h t.1 t.2 nw wr hL2 hxl hins hh hgt)
                            have hSn := hS2.put HMT.out (g := h) HMY.out
                            have hPn := hP2.put (g := h) (x := y) (by rw [hL2.mlen]; exact hxl) (by rw [hL2.xlen]; exact hxl) hL2.xlen (fun i => hSn.may.lt HR.out i)
                            have HS3 := Lib.hid hSn
                            have HP3 := Lib.hid hPn
                            have z1 : (0 : Int) ≤ (m : Int) := by omega
                            have z2 : (m : Int) < (ns.length : Int) := by omega
                            clear hSn hPn hL2 hS2 hP2
                            go_wp2_with fail
                            refine HPT.out.mono ?_
                            rintro e w10 ⟨rfl, hL3, hT3⟩
                            go_wp2_with fail
                            go_roundg (ns.length - (m + 1))
                            case measure => omega
                            case rel => exact ⟨m + 1, lput h t y, nw || chg h t.1 t.2 y, by omega, rfl, by go_num, hL3, HS3.out, HP3.out, by rw [HST.out, ← HTT.out], hT2.trans hT3, hT3.own hon HG9.out.1 HG9.out.2.1 HG9.out.2.2⟩
                          · obtain rfl : m = ns.length := by omega
                            go_wp2_with fail
                            go_roundg (k.ins.length - (j + 1))
                            case measure => omega
                            case rel =>
                              have e1 : t = lplace k s j := by rw [HTT.out, List.take_length]; exact HEQ.out
                              have e2 : t = (List.range (j + 1)).foldl (lplace k) s0 := by rw [List.range_succ, List.foldl_append, ← HFO.out]; exact e1
                              exact ⟨j + 1, t, nw, by omega, rfl, by go_num, hL2, hS2, hP2, e2, hT2⟩
              · obtain rfl : j = k.ins.length := by omega
                clear c0 c1 c2 c3 c4 q1 q2 hbxr
                obtain ⟨q1, q2, c0, c1, c2, c3, c4⟩ := HT3.out _ hT
                go_wp2_with fail
                go_roundg (2 * room k s + (if nw0 then 1 else 0))
                case measure =>
                  cases nw0
                  · rw [hP.no rfl]; simp
                  · have := hP.yes rfl; simp; omega
                case rel => exact ⟨s, nw0, hL, hS, fun h => by have h1 := hP.no h; have h2 := HFO.out; rw [h1] at h2 ⊢; exact h2.symm, rfl, hT⟩
end Go.Proofs.YtkgoajnnkimkaaaGreat
