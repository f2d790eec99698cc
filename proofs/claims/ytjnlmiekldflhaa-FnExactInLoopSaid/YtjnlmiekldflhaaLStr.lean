/- Contracts of szStringS, toStringS, eqStringS, szIntS. -/
import Derived.Test.YtjnlmiekldflhaaIntS
import Derived.Test.YtjnlmiekldflhaaReads
import Derived.Test.YtjnlmiekldflhaaCnt
set_option linter.unusedSimpArgs false
set_option linter.unusedVariables false
namespace Go.Proofs.Ytjnlmiekldflhaa
open Go.ChangeShapes Go.WideShapes Go.ChangeAt Go.RowKit

/-- The answer of a function that counts off from left: some number not below -1 and not above left; if it is no -1, then P of it. -/
def Szd (w : World) (left : Nat) (P : Nat → Prop) (e : Ending) (w' : World) : Prop :=
  Below w.heap.size w w' ∧ ((e = .returned (.int .i64 (-1))) ∨ ∃ r : Nat, e = .returned (.int .i64 r) ∧ r ≤ left ∧ P r)

theorem szIntS_any (A : Option Addr) (c n : Nat) (left : Nat) (w : World) (hn : n ≤ 9223372036854775807) (hl : left ≤ 1048576) :
    Calls Try.prog 53 #[.slice A n c, .int .i64 left] w (Szd w left fun r => r + n ≤ left) := by
  go_enter Try.func53, Try.ntmps53
  by_cases h : n ≤ left
  · go_wp2
    go_ret
    exact ⟨Below.refl _ _, .inr ⟨left - n, by go_num, by omega, by omega⟩⟩
  · go_wp2
    go_ret
    exact ⟨Below.refl _ _, .inl rfl⟩

theorem szStringS_any {B : Nat} (A : Option Addr) (c : Nat) (xs : List ByteArray) (left : Nat) (w : World) (h : Rd w B A (xs.map sv)) (hn : xs.length ≤ 9223372036854775807) (hs : ∀ s ∈ xs, s.size ≤ 9223372036854775807) (hl : left ≤ 1048576) :
    Calls Try.prog 52 #[.slice A xs.length c, .int .i64 left] w (Szd w left fun r => r + xs.length ≤ left ∧ ∀ s ∈ xs, s.size ≤ left) := by
  have HS := Lib.hid hs
  clear hs
  go_enter Try.func52, Try.ntmps52
  by_cases hlt : xs.length ≤ left
  · have hlt' : ¬ ((left : Int) - xs.length < 0) := by omega
    go_wp2
    go_loopw [1, 5] (fun q i wr => ∃ (j r : Nat), j ≤ xs.length ∧ i = .int .i64 j ∧ q = .int .i64 r ∧ r + xs.length ≤ left ∧ (∀ s ∈ xs.take j, s.size ≤ left) ∧ ∃ m, wr = w.drewN m) (fun _ i _ => xs.length - (intOf i).toNat)
    case atStart => exact ⟨0, left - xs.length, Nat.zero_le _, rfl, by go_num, by omega, by simp, 0, rfl⟩
    case round =>
      obtain ⟨j, r, hj, rfl, rfl, hr, hag, m, rfl⟩ := hrel
      have HA := Lib.hid hag
      clear hag
      by_cases hlt : j < xs.length
      · obtain ⟨ad, rfl, _, hc⟩ := h.str hlt
        have hz := HS.out _ (List.getElem_mem hlt)
        by_cases hle : xs[j].size ≤ r
        · go_wp2
          go_roundw
          case rel =>
            refine ⟨j + 1, r - xs[j].size, by omega, by go_num, by go_num, by omega, ?_, _, rfl⟩
            intro s hs
            rw [List.take_succ_eq_append_getElem hlt] at hs
            rcases List.mem_append.1 hs with h | h
            · exact HA.out s h
            · rw [List.mem_singleton.1 h]; omega
          case measure => simp [intOf]; omega
        · go_wp2
          go_ret
          exact ⟨below_drewN (Below.refl _ _) _, .inl rfl⟩
      · go_wp2
        go_ret
        have := HA.out
        rw [List.take_of_length_le (by omega)] at this
        exact ⟨below_drewN (Below.refl _ _) _, .inr ⟨r, rfl, by omega, hr, this⟩⟩
  · have hlt' : ((left : Int) - xs.length < 0) := by omega
    go_wp2
    go_ret
    exact ⟨Below.refl _ _, .inl rfl⟩

section
variable (w : World) {ops : Array Oper} {rest : List Oper} {o : Oper} {a : Act} {Q : Exit → Act → World → Prop}
theorem replicate_sv (n : Nat) : (madeCells (Value.string ⟨#[]⟩).cells (n * 1)).toList = (List.replicate n (⟨#[]⟩ : ByteArray)).map sv := by
  show (madeCells #[Value.string ⟨#[]⟩] (n * 1)).toList = _
  rw [toList_madeCells_one, Nat.mul_one, List.map_replicate]; rfl
/-- make([]string, n). -/
theorem make_strs (hg : o.guard = none) (l c : Operand) (hop : o.op = Op.makeSlice 22 l c) (n : Nat) (hl : a.eval l = .int .i64 (n : Int)) (hc : a.eval c = .int .i64 (n : Int)) (hn : n ≤ 1099511627776)
    (hK : ∀ w', w'.ownsRow w.heap.size 9 1 (.slice (some ⟨w.heap.size, 0, none⟩) n n) n ((List.replicate n (⟨#[]⟩ : ByteArray)).map sv) → Below w.heap.size w w' →
      wpList Try.prog ops Q rest (a.put o.dst (.slice (some ⟨w.heap.size, 0, none⟩) n n)) w') : wpList Try.prog ops Q (o :: rest) a w := by
  obtain ⟨i0, hi, hz0, hz1, hz2⟩ := info_parts info_string
  refine wpList_make_full w hg l c _ hop w.heap.size _ i0 _ 1 Try.underlying22 hi hz0 hz1 _ _ _ _ n hl hc rfl rfl (by rw [hz2]; omega) (by unfold maxLen; omega) (Nat.le_refl _) ?_
  intro w' h1 h2
  rw [replicate_sv] at h1
  exact hK w' h1 ((Below.refl _ _).grown h2 (Nat.le_refl _) (by simp))
end

theorem toStringS_any {B : Nat} (A : Option Addr) (c : Nat) (xs : List ByteArray) (w : World) (h0 : Rd w B A (xs.map sv)) (hn : xs.length ≤ 1099511627776) :
    Calls Try.prog 59 #[.slice A xs.length c] w (NewRow w 9 1 xs.length (xs.map sv)) := by
  have h := h0.full
  clear h0
  go_enter Try.func59, Try.ntmps59
  go_wp2_with (at_make; refine make_strs _ rfl _ _ rfl xs.length rfl rfl hn ?_; intro w1 hown hb)
  go_loopw [4] (fun i wr => ∃ (k : Nat) (ys : List ByteArray), k ≤ xs.length ∧ i = .int .i64 k ∧ ys.length = xs.length ∧ (∀ j, j < k → ys[j]? = xs[j]?) ∧ wr.ownsRow w.heap.size 9 1 (.slice (some ⟨w.heap.size, 0, none⟩) xs.length xs.length) xs.length (ys.map sv) ∧ Below w.heap.size w wr) (fun i _ => xs.length - (intOf i).toNat)
  case atStart => exact ⟨0, _, Nat.zero_le _, rfl, by simp, by simp, hown, hb⟩
  case round =>
    obtain ⟨k, ys, hk, rfl, hl, hag, ho, hbr⟩ := hrel
    clear hown hb
    have HL := Lib.hid hl
    have HA := Lib.hid hag
    clear hl hag
    by_cases hlt : k < xs.length
    · obtain ⟨ad, rfl, _, hc⟩ := (h.below hbr).str hlt
      obtain ⟨u, hu⟩ := own_has ho (j := k) (by omega)
      have hf := ho.frozenAt k
      go_wp2
      go_roundw
      case rel =>
        obtain ⟨s1, s2⟩ := ho.stored k (sv xs[k])
        rw [set_map] at s1
        exact ⟨k + 1, _, by omega, by go_num, by simpa using HL.out, set_agree HL.out (by simp [hlt]) HA.out, s1, hbr.setCell (Nat.le_refl _) _⟩
      case measure => simp [intOf]; omega
    · go_wp2
      go_ret
      obtain rfl : k = xs.length := by omega
      have e := eq_of_agree HL.out HA.out
      subst e
      exact ⟨_, _, rfl, ho, hbr⟩

theorem eqStringS_same {B B' : Nat} (A A' : Option Addr) (c d : Nat) (xs : List ByteArray) (w : World) (ha : Rd w B A (xs.map sv)) (hb : Rd w B' A' (xs.map sv)) (hx : xs.length ≤ 1099511627776) :
    Calls Try.prog 25 #[.slice A xs.length c, .slice A' xs.length d] w fun e w' => e = .returned (.bool true) ∧ Below w.heap.size w w' := by
  have hne : ((xs.length : Int) != xs.length) = false := by simp
  go_enter Try.func25, Try.ntmps25
  go_wp2
  go_loopw [5] (fun i wr => ∃ k : Nat, k ≤ xs.length ∧ i = .int .i64 k ∧ ∃ n, wr = w.drewN n) (fun i _ => xs.length - (intOf i).toNat)
  case atStart => exact ⟨0, Nat.zero_le _, rfl, 0, rfl⟩
  case round =>
    obtain ⟨k, hk, rfl, n, rfl⟩ := hrel
    by_cases hlt : k < xs.length
    · obtain ⟨ad, rfl, _, hc⟩ := ha.str hlt
      obtain ⟨bd, rfl, _, hd⟩ := hb.str hlt
      have hq : (!(xs[k].toList == xs[k].toList)) = false := by simp
      go_wp2
      go_quiet (fail)
      go_wp2
      go_roundw
      case rel => exact ⟨k + 1, by omega, by go_num, _, rfl⟩
      case measure => simp [intOf]; omega
    · go_wp2
      go_ret
      exact ⟨rfl, below_drewN (Below.refl _ _) _⟩

/-- What szTerm and szTermS answer about a term and about the kids of a term. -/
def SzTerm (t : Tm) : Prop := ∀ (B : Nat) (A : Option Addr) (c left : Nat) (w : World), KidsAt w B A t.kids → TmB 9223372036854775807 t → left ≤ 1048576 →
  Calls Try.prog 117 #[.agg #[.int .i64 t.kind, .int .i64 t.num, .string t.name, .slice A t.kids.length c], .int .i64 left] w (Szd w left fun r => r + t.cnt ≤ left ∧ TmB 1048576 t)
theorem szTermS_of {B : Nat} (A : Option Addr) (c left : Nat) (ks : List Tm) (w : World) (hk : KidsAt w B A ks) (hn : ks.length ≤ 9223372036854775807) (hb : ∀ i (h : i < ks.length), TmB 9223372036854775807 ks[i]) (hl : left ≤ 1048576) (ih : ∀ i (h : i < ks.length), SzTerm ks[i]) :
    Calls Try.prog 136 #[.slice A ks.length c, .int .i64 left] w (Szd w left fun r => r + Tm.cntL ks ≤ left ∧ ∀ i (h : i < ks.length), TmB 1048576 ks[i]) := by
  have HI := Lib.hid ih
  have HB := Lib.hid hb
  clear ih hb
  go_enter Try.func136, Try.ntmps136
  by_cases hle : ks.length ≤ left
  · have hle' : ¬ ((left : Int) - ks.length < 0) := by omega
    go_wp2
    go_loopw [1, 5] (fun q i wr => ∃ (j r : Nat), j ≤ ks.length ∧ i = .int .i64 j ∧ q = .int .i64 r ∧ r + Tm.cntL (ks.take j) + (ks.length - j) ≤ left ∧ (∀ i (h : i < ks.length), i < j → TmB 1048576 ks[i]) ∧ Below w.heap.size w wr) (fun _ i _ => ks.length - (intOf i).toNat)
    case atStart => exact ⟨0, left - ks.length, Nat.zero_le _, rfl, by go_num, by simp [Tm.cntL]; omega, fun i h hi => by omega, Below.refl _ _⟩
    case round =>
      obtain ⟨j, r, hj, rfl, rfl, hr, hag, hbr⟩ := hrel
      have HA := Lib.hid hag
      clear hag
      by_cases hlt : j < ks.length
      · have hk' := hk.full.below hbr
        obtain ⟨ad, A', c', rfl, hbl, k0, k1, k2, k3, hk2⟩ := hk'.get hlt
        go_wp2_with fail
        refine (HI.out j hlt _ A' c' r _ hk2 (HB.out j hlt) (by omega)).mono ?_
        rintro e w' ⟨hb1, rfl | ⟨r', rfl, hr', hcn, hok⟩⟩
        · go_wp2_with fail
          go_ret
          exact ⟨below_trans' hbr hb1, .inl rfl⟩
        · have hnn : ¬ ((r' : Int) < 0) := by omega
          go_wp2_with fail
          go_roundw
          case rel =>
            refine ⟨j + 1, r', by omega, by go_num, rfl, by rw [cntL_take hlt]; omega, ?_, below_trans' hbr hb1⟩
            intro i h hi
            rcases Nat.lt_succ_iff_lt_or_eq.1 hi with h1 | rfl
            · exact HA.out i h h1
            · exact hok
          case measure => simp [intOf]; omega
      · go_wp2
        go_ret
        rw [List.take_of_length_le (by omega)] at hr
        exact ⟨hbr, .inr ⟨r, rfl, by omega, by omega, fun i h => HA.out i h (by omega)⟩⟩
  · have hle' : ((left : Int) - ks.length < 0) := by omega
    go_wp2
    go_ret
    exact ⟨Below.refl _ _, .inl rfl⟩
theorem szTerm_step (t : Tm) (ih : ∀ i (h : i < t.kids.length), SzTerm t.kids[i]) : SzTerm t := by
  intro B A c left w hk hb hl
  obtain ⟨f1, f2, f3, f4⟩ := hb.fits
  have HS := Lib.hid (fun r (hr : r ≤ 1048576) W (h : KidsAt W W.heap.size A t.kids) => szTermS_of A c r t.kids W h f4 (fun i h => hb.kid i h) hr ih)
  have HT := Lib.hid (show ∀ r, r ≤ left → t.name.size ≤ left → (t.kids.length ≤ r ∧ ∀ i (h : i < t.kids.length), TmB 1048576 t.kids[i]) → TmB 1048576 t from fun r hr h1 h2 => by
    rw [Tm.eta t]
    exact .mk _ _ _ _ f1 f2 (by omega) (by omega) h2.2)
  clear ih hb
  go_enter Try.func117, Try.ntmps117
  by_cases hle : t.name.size ≤ left
  · have hle' : ¬ ((left : Int) - t.name.size < 0) := by omega
    have e : ((left : Int) - t.name.size) = ((left - t.name.size : Nat) : Int) := by omega
    have HE := Lib.hid e
    clear e
    go_wp2_with fail
    rw [HE.out]
    refine (HS.out (left - t.name.size) (by omega) _ (hk.full.below (below_alloc0 _ _)).full).mono ?_
    rintro e w' ⟨hb1, rfl | ⟨r', rfl, hr', hcn, hok⟩⟩
    · go_wp2_with fail
      go_ret
      exact ⟨below_trans' (below_alloc0 _ _) hb1, .inl rfl⟩
    · have hnn : ¬ ((r' : Int) < 0) := by omega
      go_wp2_with fail
      go_ret
      exact ⟨below_trans' (below_alloc0 _ _) hb1, .inr ⟨r', rfl, by omega, by rw [Tm.cnt_kids]; omega, HT.out left (by omega) hle ⟨by have := cntL_ge t.kids; omega, hok⟩⟩⟩
  · have hle' : ((left : Int) - t.name.size < 0) := by omega
    go_wp2_with fail
    go_ret
    exact ⟨below_alloc0 _ _, .inl rfl⟩
theorem szTerm_any (t : Tm) : SzTerm t := by
  have : ∀ (n : Nat) (t : Tm), SizeOf.sizeOf t ≤ n → SzTerm t := by
    intro n
    induction n with
    | zero => intro t h; cases t; simp at h
    | succ n ih => intro t h; exact szTerm_step t fun i hi => ih _ (by have := sizeOf_kid i hi; omega)
  exact this _ t (Nat.le_refl _)
end Go.Proofs.Ytjnlmiekldflhaa
