/- Contracts of eqIntSS, markIntSS, heldIntSS: rows of rows of ints, compared, marked, held. -/
import Derived.Test.YtkgoajnnkimkaaaKa
set_option linter.unusedSimpArgs false
set_option linter.unusedVariables false
namespace Go.Proofs.Ytkgoajnnkimkaaa
open Go.ChangeShapes Go.WideShapes Go.ChangeAt Go.RowKit

section
variable {W W' : World} {b0 : Nat} {T S : TypeId} {v : Value} {rr : List (Option Addr × Nat × List Value)} {cs : List (List Nat)}
theorem RI.cells_ (h : RI W b0 v rr cs) {i : Nat} (hi : i < cs.length) : rr[i]'(by rw [h.len]; exact hi) = ((rr[i]'(by rw [h.len]; exact hi)).1, (rr[i]'(by rw [h.len]; exact hi)).2.1, (numI cs[i]).map iv) := by
  have hi' : i < rr.length := by rw [h.len]; exact hi
  have hc := congrArg (fun l => l[i]?) h.c
  simp only [List.getElem?_map, List.getElem?_eq_getElem hi', List.getElem?_eq_getElem hi, Option.map_some, Option.some.injEq] at hc
  exact Prod.ext rfl (Prod.ext rfl hc)
/-- Row i: where it lies, and what it reads as. -/
theorem RI.row {A : Option Addr} {m c : Nat} (h : RI W b0 (.slice A m c) rr cs) {i : Nat} (hi : i < cs.length) :
    ∃ g A1 c1, A = some ⟨g, 0, none⟩ ∧ W.cell? ⟨g, i, none⟩ = some (.slice A1 (numI cs[i]).length c1) ∧ Rd W W.heap.size A1 ((numI cs[i]).map iv) := by
  have hi' : i < rr.length := by rw [h.len]; exact hi
  obtain ⟨g, e1, h1⟩ := h.l.at_ hi'
  have hr := h.l.r i hi'
  have hc := h.cells_ hi
  rw [hc] at h1 hr
  refine ⟨g, (rr[i]'hi').1, (rr[i]'hi').2.1, e1, ?_, ?_⟩
  · rw [h1, rowV]; simp
  · have : rowV (rr[i].1, rr[i].2.1, (numI cs[i]).map iv) = .slice rr[i].1 ((numI cs[i]).map iv).length rr[i].2.1 := rfl
    rw [this] at hr
    exact own_rd hr
theorem RI.kept (h : RI W b0 v rr cs) {u : Value} (hg : W.grownBy W' u.ownBlock) (h1 : Apt v u) (h2 : ∀ p ∈ rr, Apt (rowV p) u) : RI W' b0 v rr cs := ⟨h.l.kept hg h1 h2, h.c⟩
/-- A row is filled anew. -/
theorem RL.put (h : RL W b0 T S v rr) {i : Nat} {xs : List Value} (hi : i < rr.length) (hl : xs.length = rr[i].2.2.length) (ho : W'.ownsRow b0 S 1 (rowV rr[i]) rr[i].2.2.length xs) (hg : W.grownBy W' (rowV rr[i]).ownBlock) :
    RL W' b0 T S v (rr.set i (rr[i].1, rr[i].2.1, xs)) := by
  have er : rowV (rr[i].1, rr[i].2.1, xs) = rowV rr[i] := by simp [rowV, hl]
  have em : (rr.set i (rr[i].1, rr[i].2.1, xs)).map rowV = rr.map rowV := by
    apply List.ext_getElem
    · simp
    · intro m h1 h2
      simp only [List.length_map, List.length_set] at h1 h2
      simp only [List.getElem_map, List.getElem_set]
      split
      · rename_i e; subst e; exact er
      · rfl
  have hv : ∀ m (hm : m < (rr.set i (rr[i].1, rr[i].2.1, xs)).length), rowV (rr.set i (rr[i].1, rr[i].2.1, xs))[m] = rowV (rr[m]'(by simpa using hm)) := by
    intro m hm
    rw [List.getElem_set]
    split
    · rename_i e; subst e; exact er
    · rfl
  refine ⟨?_, fun m hm => ?_, fun p hp => ?_, fun a b ha hb hab => ?_⟩
  · rw [em, List.length_set]
    exact apt_kept h.f hg (h.ne _ (List.getElem_mem hi)).swap
  · have hm' : m < rr.length := by simpa using hm
    by_cases e : i = m
    · subst e
      simp only [List.getElem_set_self]
      rw [er, hl]
      exact ho
    · rw [List.getElem_set_ne e]
      exact apt_kept (h.r m hm') hg (h.pw m i hm' hi fun h => e h.symm)
  · obtain ⟨m, hm, rfl⟩ := List.getElem_of_mem hp
    rw [hv m hm]
    exact h.ne _ (List.getElem_mem _)
  · rw [hv a ha, hv b hb]
    exact h.pw a b (by simpa using ha) (by simpa using hb) hab
end

set_option maxRecDepth 100000 in
set_option maxHeartbeats 4000000 in
theorem eqIntSS_same {b1 b2 : Nat} (A A' : Option Addr) (c d : Nat) (rr rr' : List (Option Addr × Nat × List Value)) (cs : List (List Nat)) (w : World) (ha : RI w b1 (.slice A cs.length c) rr cs) (hb : RI w b2 (.slice A' cs.length d) rr' cs) (hn : cs.length ≤ 60) (hx : ∀ l ∈ cs, l.length ≤ 60) :
    Calls Try.prog 9 #[.slice A cs.length c, .slice A' cs.length d] w fun e w' => e = .returned (.bool true) ∧ Below w.heap.size w w' := by
  have HA := Lib.hid ha
  have HB := Lib.hid hb
  have HX := Lib.hid hx
  have hne : ((cs.length : Int) != cs.length) = false := by simp
  clear ha hb hx
  go_enter Try.func9, Try.ntmps9
  go_wp2
  go_loopg [5] cs.length (fun l i wr => ∃ k : Nat, k ≤ cs.length ∧ l = cs.length - k ∧ i = .int .i64 k ∧ Below w.heap.size w wr)
  case atStart => exact ⟨0, Nat.zero_le _, by omega, rfl, Below.refl _ _⟩
  case round =>
    obtain ⟨k, hk, rfl, rfl, hbr⟩ := hrel
    by_cases hlt : k < cs.length
    · obtain ⟨g, A1, c1, rfl, k0, r1⟩ := (HA.out.below hbr).row hlt
      obtain ⟨g', A2, c2, rfl, l0, r2⟩ := (HB.out.below hbr).row hlt
      have hl60 : (numI cs[k]).length ≤ 60 := by rw [numI_len]; exact HX.out _ (List.getElem_mem hlt)
      have z1 : (0 : Int) ≤ (k : Int) := by omega
      have z2 : (k : Int) < (cs.length : Int) := by omega
      have HE := Lib.hid (fun V (hV : Below wr.heap.size wr V) => eqIntS_same A1 A2 c1 c2 (numI cs[k]) V (r1.below hV) (r2.below hV) (by omega))
      clear r1 r2
      generalize numI cs[k] = xs at k0 l0 HE
      go_wp2_with fail
      go_region_held3 (fun w' => Below wr.heap.size wr w' ∧ w'.cell? ⟨g, k, none⟩ = some (.slice A1 xs.length c1) ∧ w'.cell? ⟨g', k, none⟩ = some (.slice A2 xs.length c2))
        (first | exact ⟨(Below.refl _ _).drew, k0, l0⟩ | assumption | (go_split_ands; refine ⟨below_trans' (by assumption) hb1, ?_, ?_⟩ <;> exact cell_below hb1 (by assumption)))
        (first | (go_at_call 30; go_split_ands; refine (HE.out _ (by assumption)).mono ?_; rintro e w1 ⟨rfl, hb1⟩))
      rename_i W1 _ hS
      have hbS := hS.1
      clear hS k0 l0
      go_wp2_with fail
      go_roundg (cs.length - (k + 1))
      case measure => omega
      case rel => exact ⟨k + 1, by omega, rfl, by go_num, below_trans' hbr hbS⟩
    · go_wp2
      go_ret
      exact ⟨rfl, hbr⟩

/-- How many numbers lie in the first j lists. -/
def offs (cs : List (List Nat)) (j : Nat) : Nat := ((cs.take j).map List.length).sum
theorem offs_succ {cs : List (List Nat)} {j : Nat} (h : j < cs.length) : offs cs (j + 1) = offs cs j + cs[j].length := by
  unfold offs
  rw [List.take_succ_eq_append_getElem h, List.map_append, List.sum_append]
  simp
theorem offs_le {cs : List (List Nat)} (hx : ∀ l ∈ cs, l.length ≤ 60) (j : Nat) (hj : j ≤ cs.length) : offs cs j ≤ 60 * j := by
  induction j with
  | zero => simp [offs]
  | succ j ih =>
    rw [offs_succ (by omega)]
    have := ih (by omega)
    have := hx _ (List.getElem_mem (show j < cs.length by omega))
    omega
/-- The lists, marked by k, k + 1 and so on. -/
def markSS (k : Nat) (cs : List (List Nat)) (j : Nat) : List Nat := List.range' (k + offs cs j) ((cs[j]?).getD []).length
def markAll (k : Nat) (cs : List (List Nat)) : List (List Nat) := (List.range cs.length).map (markSS k cs)
theorem markAll_len (k : Nat) (cs : List (List Nat)) : (markAll k cs).length = cs.length := by simp [markAll]
theorem markAll_get {k : Nat} {cs : List (List Nat)} {j : Nat} (h : j < (markAll k cs).length) : (markAll k cs)[j] = markSS k cs j := by simp [markAll]
theorem numI_range (a n : Nat) : numI (List.range' a n) = upFrom a n := by
  apply List.ext_getElem
  · simp [numI, upFrom]
  · intro i h1 h2
    simp [numI, upFrom]
theorem markSS_len {k : Nat} {cs : List (List Nat)} {j : Nat} (h : j < cs.length) : (markSS k cs j).length = cs[j].length := by simp [markSS, h]
theorem markAll_small {k : Nat} {cs : List (List Nat)} (hx : ∀ l ∈ cs, l.length ≤ 60) : ∀ l ∈ markAll k cs, l.length ≤ 60 := fun l hl => by
  obtain ⟨j, hj, rfl⟩ := List.getElem_of_mem hl
  have hj' : j < cs.length := by rwa [markAll_len] at hj
  rw [markAll_get hj, markSS_len hj']
  exact hx _ (List.getElem_mem hj')
/-- The lists on their way to their marks. -/
def wayM (k : Nat) (cs : List (List Nat)) (i : Nat) : List (List Nat) := (List.range cs.length).map fun j => if j < i then markSS k cs j else (cs[j]?).getD []
theorem wayM_zero (k : Nat) (cs : List (List Nat)) : wayM k cs 0 = cs := by
  apply List.ext_getElem
  · simp [wayM]
  · intro i h1 h2; simp [wayM, h2]
theorem wayM_full (k : Nat) (cs : List (List Nat)) : wayM k cs cs.length = markAll k cs := by
  unfold wayM markAll
  exact List.map_congr_left fun j hj => by rw [if_pos (List.mem_range.1 hj)]
theorem wayM_len (k : Nat) (cs : List (List Nat)) (i : Nat) : (wayM k cs i).length = cs.length := by simp [wayM]
theorem wayM_get {k : Nat} {cs : List (List Nat)} {i : Nat} (h : i < cs.length) : (wayM k cs i)[i]'(by rw [wayM_len]; exact h) = cs[i] := by simp [wayM, h]
theorem wayM_set {k : Nat} {cs : List (List Nat)} {i : Nat} (h : i < cs.length) : (wayM k cs i).set i (markSS k cs i) = wayM k cs (i + 1) := by
  apply List.ext_getElem
  · simp [wayM]
  · intro j h1 h2
    rw [List.getElem_set]
    simp only [wayM, List.getElem_map, List.getElem_range]
    by_cases e : i = j
    · subst e; simp
    · rw [if_neg e]
      by_cases e2 : j < i
      · rw [if_pos e2, if_pos (by omega)]
      · rw [if_neg e2, if_neg (by omega)]
theorem RI.marked {W W' : World} {b0 k i : Nat} {v : Value} {rr : List (Option Addr × Nat × List Value)} {cs : List (List Nat)} (h : RI W b0 v rr (wayM k cs i)) (hi : i < cs.length) (hr : i < rr.length)
    (ho : W'.ownsRow b0 3 1 (rowV rr[i]) cs[i].length ((upFrom (k + offs cs i) cs[i].length).map iv)) (hg : W.grownBy W' (rowV rr[i]).ownBlock) :
    RI W' b0 v (rr.set i (rr[i].1, rr[i].2.1, (upFrom (k + offs cs i) cs[i].length).map iv)) (wayM k cs (i + 1)) := by
  have hw : i < (wayM k cs i).length := by rw [wayM_len]; exact hi
  have hc := h.cells_ hw
  rw [wayM_get hi] at hc
  have hlen : rr[i].2.2.length = cs[i].length := by rw [hc]; simp [numI]
  refine ⟨h.l.put hr (by rw [hlen]; simp [upFrom]) (by rw [hlen]; exact ho) hg, ?_⟩
  rw [List.map_set, h.c, ← wayM_set hi, List.map_set]
  have : (numI (markSS k cs i)).map iv = (upFrom (k + offs cs i) cs[i].length).map iv := by
    unfold markSS
    rw [numI_range, List.getElem?_eq_getElem hi]
    rfl
  rw [this]

set_option maxRecDepth 100000 in
set_option maxHeartbeats 4000000 in
theorem markIntSS_any {b0 : Nat} (A : Option Addr) (c k : Nat) (rr : List (Option Addr × Nat × List Value)) (cs : List (List Nat)) (w : World) (h : RI w b0 (.slice A cs.length c) rr cs) (hn : cs.length ≤ 60) (hx : ∀ l ∈ cs, l.length ≤ 60) (hk : k ≤ 1000) (hb0 : b0 ≤ w.heap.size) :
    Calls Try.prog 12 #[.slice A cs.length c, .int .i64 k] w fun e w' => e = .returned (.int .i64 ((k + offs cs cs.length : Nat) : Int)) ∧ (∃ rr', RI w' b0 (.slice A cs.length c) rr' (markAll k cs)) ∧ Below b0 w w' ∧ w.heap.size ≤ w'.heap.size := by
  have HX := Lib.hid hx
  clear hx
  go_enter Try.func12, Try.ntmps12
  go_wp2
  go_loopg [1, 5] cs.length (fun l q i wr => ∃ (j : Nat) (rr : List (Option Addr × Nat × List Value)), j ≤ cs.length ∧ l = cs.length - j ∧ i = .int .i64 j ∧ q = .int .i64 ((k + offs cs j : Nat) : Int) ∧ RI wr b0 (.slice A cs.length c) rr (wayM k cs j) ∧ Below b0 w wr ∧ w.heap.size ≤ wr.heap.size)
  case atStart => exact ⟨0, rr, Nat.zero_le _, by omega, rfl, by simp [offs], by rw [wayM_zero]; exact h, Below.refl _ _, Nat.le_refl _⟩
  case round =>
    clear h
    obtain ⟨j, rr, hj, rfl, rfl, rfl, hI, hb, hsz⟩ := hrel
    have HI := Lib.hid hI
    clear hI
    by_cases hlt : j < cs.length
    · have hr : j < rr.length := by rw [HI.out.len, wayM_len]; exact hlt
      obtain ⟨g, e1, h1⟩ := HI.out.l.at_ hr
      subst e1
      have hc := HI.out.cells_ (i := j) (by rw [wayM_len]; exact hlt)
      rw [wayM_get hlt] at hc
      have hrow := HI.out.l.r j hr
      have hlen : rr[j].2.2.length = cs[j].length := by rw [hc]; simp [numI]
      have ev : rowV rr[j] = .slice rr[j].1 cs[j].length rr[j].2.1 := by rw [rowV, hlen]
      rw [ev, hlen] at hrow
      rw [ev] at h1
      have hl60 := HX.out _ (List.getElem_mem hlt)
      have hoff := offs_le HX.out j hj
      have HS := Lib.hid (offs_succ hlt)
      have z1 : (0 : Int) ≤ (j : Int) := by omega
      have z2 : (j : Int) < (cs.length : Int) := by omega
      have HM := Lib.hid (markIntS_any rr[j].1 rr[j].2.1 cs[j].length (k + offs cs j) _ wr hrow (by omega) (by omega))
      have HEV := Lib.hid ev
      have HRW := Lib.hid hrow
      have HHR := Lib.hid hr
      have HNXT := Lib.hid (fun W' ho hg => HI.out.marked (W' := W') hlt hr ho hg)
      clear hc hlen ev hrow
      have HGT := Lib.hid (fun x (hx : (Value.slice rr[j].1 cs[j].length rr[j].2.1).ownBlock = some x) => HRW.out.lt x hx)
      generalize cs[j].length = nl at *
      go_wp2_with fail
      refine HM.out.mono ?_
      rintro e w2 ⟨rfl, ho2, hg2⟩
      go_wp2_with fail
      go_roundg (cs.length - (j + 1))
      case measure => omega
      case rel =>
        exact ⟨j + 1, _, by omega, rfl, by go_num, by rw [HS.out]; go_num, HNXT.out w2 (by rw [HEV.out]; exact ho2) (by rw [HEV.out]; exact hg2), hb.grown hg2 (by omega) (fun x hx => (HGT.out x hx).1), Nat.le_trans hsz hg2.size⟩
    · obtain rfl : j = cs.length := by omega
      go_wp2
      go_ret
      exact ⟨rfl, ⟨rr, by rw [← wayM_full]; exact HI.out⟩, hb, hsz⟩

set_option maxRecDepth 100000 in
set_option maxHeartbeats 4000000 in
theorem heldIntSS_any {b0 : Nat} (A : Option Addr) (c k : Nat) (rr : List (Option Addr × Nat × List Value)) (cs : List (List Nat)) (w : World) (h : RI w b0 (.slice A cs.length c) rr (markAll k cs)) (hn : cs.length ≤ 60) (hx : ∀ l ∈ cs, l.length ≤ 60) (hk : k ≤ 1000) :
    Calls Try.prog 13 #[.slice A cs.length c, .int .i64 k] w fun e w' => e = .returned (.int .i64 ((k + offs cs cs.length : Nat) : Int)) ∧ Below w.heap.size w w' := by
  have HX := Lib.hid hx
  have HH := Lib.hid h
  clear hx h
  go_enter Try.func13, Try.ntmps13
  go_wp2
  go_loopg [1, 5] cs.length (fun l q i wr => ∃ j : Nat, j ≤ cs.length ∧ l = cs.length - j ∧ i = .int .i64 j ∧ q = .int .i64 ((k + offs cs j : Nat) : Int) ∧ Below w.heap.size w wr)
  case atStart => exact ⟨0, Nat.zero_le _, by omega, rfl, by simp [offs], Below.refl _ _⟩
  case round =>
    obtain ⟨j, hj, rfl, rfl, rfl, hb⟩ := hrel
    by_cases hlt : j < cs.length
    · obtain ⟨g, A1, c1, rfl, k0, r1⟩ := (HH.out.below hb).row (i := j) (by rw [markAll_len]; exact hlt)
      rw [markAll_get] at k0 r1
      have em : numI (markSS k cs j) = upFrom (k + offs cs j) cs[j].length := by
        unfold markSS
        rw [numI_range, List.getElem?_eq_getElem hlt]
        rfl
      rw [em] at r1 k0
      rw [upFrom_length] at k0
      have hl60 := HX.out _ (List.getElem_mem hlt)
      have hoff := offs_le HX.out j hj
      have HS := Lib.hid (offs_succ hlt)
      have z1 : (0 : Int) ≤ (j : Int) := by omega
      have z2 : (j : Int) < (cs.length : Int) := by omega
      have HM := Lib.hid (heldIntS_b A1 c1 cs[j].length (k + offs cs j) wr r1 (by omega) (by omega))
      clear em r1
      generalize cs[j].length = nl at *
      have hnn : ¬ (((k + offs cs j + nl : Nat) : Int) < 0) := by omega
      go_wp2_with fail
      refine HM.out.mono ?_
      rintro e w2 ⟨rfl, hb2⟩
      go_wp2_with fail
      go_roundg (cs.length - (j + 1))
      case measure => omega
      case rel => exact ⟨j + 1, by omega, rfl, by go_num, by rw [HS.out]; go_num, below_trans' hb hb2⟩
    · obtain rfl : j = cs.length := by omega
      go_wp2
      go_ret
      exact ⟨rfl, hb⟩

/-- The parts are few, and small. -/
theorem compsF_small (W : Nat → Nat → Bool) (n f : Nat) : ∀ D : List Bool, (compsF W n f D).length ≤ f ∧ ∀ l ∈ compsF W n f D, l.length ≤ n := by
  induction f with
  | zero => intro D; simp [compsF]
  | succ f ih =>
    intro D
    rw [compsF]
    cases firstB W n D with
    | none => simp
    | some i =>
      obtain ⟨h1, h2⟩ := ih (tell W n i D)
      refine ⟨by simp only [List.length_cons]; omega, fun l hl => ?_⟩
      rcases List.mem_cons.1 hl with rfl | hl
      · have := List.length_filter_le (both2 W i) (List.range n)
        simpa [partL] using this
      · exact h2 l hl
theorem compsOf_small (n : Int) (es : List (Int × Int)) : (compsOfN n es).length ≤ 60 ∧ ∀ l ∈ compsOfN n es, l.length ≤ 60 := by
  unfold compsOfN
  split
  · rename_i h
    obtain ⟨m, rfl, hm, _⟩ := graph_yes h
    obtain ⟨h1, h2⟩ := compsF_small (wsh (arcB es) m) m m (List.replicate m false)
    rw [Int.toNat_natCast]
    exact ⟨by unfold compsN; omega, fun l hl => Nat.le_trans (h2 l hl) hm⟩
  · simp
end Go.Proofs.Ytkgoajnnkimkaaa
