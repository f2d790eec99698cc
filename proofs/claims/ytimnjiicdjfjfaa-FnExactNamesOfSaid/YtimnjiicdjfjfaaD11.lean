/- Contracts of lockNames and NamesOf, of the program and of the reference; of markStringS and heldStringS. -/
import Derived.Test.YtimnjiicdjfjfaaD5
import Derived.Test.YtimnjiicdjfjfaaQ1
import Derived.Test.YtimnjiicdjfjfaaM2
import Derived.Test.YtimnjiicdjfjfaaB1
set_option linter.unusedSimpArgs false
set_option linter.unusedVariables false
namespace Go.Proofs.Ytimnjiicdjfjfaa
open Go.ChangeShapes Go.WideShapes Go.ChangeAt Go.RowKit

/-- The texts of k, k + 1 and so on: n of them. -/
def upTexts (k n : Nat) : List ByteArray := (List.range n).map fun i => markT (k + i)
theorem upTexts_length (k n : Nat) : (upTexts k n).length = n := by simp [upTexts]
theorem upTexts_get (k n i : Nat) (h : i < n) : (upTexts k n)[i]? = some (markT (k + i)) := by simp [upTexts, h]

theorem markStringS_any {base : Nat} (A : Option Addr) (c n k : Nat) (xs : List Value) (w : World) (ho : w.ownsRow base 9 1 (.slice A n c) n xs) (hn : n ≤ 1048576) (hk : k ≤ 1048576) :
    Calls Try.prog 22 #[.slice A n c, .int .i64 k] w fun e w' => e = .returned (.int .i64 ((k + n : Nat) : Int)) ∧ w'.ownsRow base 9 1 (.slice A n c) n ((upTexts k n).map sv) ∧ w.grownBy w' (Value.slice A n c).ownBlock := by
  rcases Nat.eq_zero_or_pos n with h0 | hp
  · subst h0
    go_enter Try.func22, Try.ntmps22
    go_wp2_with fail
    go_loopg [1, 5] 0 (fun l q i wr => l = 0 ∧ q = .int .i64 (k : Int) ∧ i = .int .i64 0 ∧ wr = w)
    case atStart => exact ⟨rfl, rfl, rfl, rfl⟩
    case round =>
      obtain ⟨rfl, rfl, rfl, rfl⟩ := hrel
      go_wp2_with fail
      go_ret
      have : xs = [] := List.eq_nil_of_length_eq_zero (own_len ho)
      subst this
      exact ⟨rfl, ho, World.grownBy.refl _ _⟩
  · obtain ⟨g, rfl⟩ : ∃ g, A = some ⟨g, 0, none⟩ := by
      rcases ho.2 with ⟨e, h0⟩ | ⟨g, cap, cur, e, _⟩
      · omega
      · injection e with e; exact ⟨g, e⟩
    go_enter Try.func22, Try.ntmps22
    go_wp2_with fail
    go_loopg [1, 5] n (fun l q i wr => ∃ (j : Nat) (ys : List Value), j ≤ n ∧ l = n - j ∧ i = .int .i64 j ∧ q = .int .i64 ((k + j : Nat) : Int) ∧ (∀ m, m < j → ys[m]? = ((upTexts k n).map sv)[m]?) ∧ wr.ownsRow base 9 1 (.slice (some ⟨g, 0, none⟩) n c) n ys ∧ w.grownBy wr (some g))
    case atStart => exact ⟨0, xs, Nat.zero_le _, rfl, rfl, rfl, by simp, ho, World.grownBy.refl _ _⟩
    case round =>
      obtain ⟨j, ys, hj, rfl, rfl, rfl, hag, ho', hg⟩ := hrel
      have HA := Lib.hid hag
      clear hag
      by_cases hlt : j < n
      · have z1 : (0 : Int) ≤ (j : Int) := by omega
        have z2 : (j : Int) < (n : Int) := by omega
        have hgl := (own_lt ho').2
        generalize hq : k + j = q
        have HQ := Lib.hid hq
        have hqb : q + 1 ≤ 100000000 := by omega
        clear hq
        go_wp2_with fail
        refine (markText_any q _ (by omega)).mono ?_
        rintro e w3 ⟨rfl, hb3⟩
        have ho3 := own_below ho' hb3
        obtain ⟨u, hu⟩ := own_has ho3 (j := j) (by omega)
        have hf := ho3.frozenAt j
        have HG3 := Lib.hid (grownBelow hg hb3)
        have HO3 := Lib.hid ho3
        have HLN := Lib.hid (own_len ho3)
        clear ho' hg hb3 ho3
        go_wp2_with fail
        go_roundg (n - (j + 1))
        case measure => omega
        case rel =>
          obtain ⟨s1, s2⟩ := HO3.out.stored j (sv (markT q))
          refine ⟨j + 1, _, by omega, rfl, by go_num, by rw [← Nat.add_assoc, HQ.out]; go_num, ?_, s1, HG3.out.trans s2⟩
          exact set_agree (by rw [HLN.out]; simp [upTexts_length]) (by rw [List.getElem?_map, upTexts_get k n j hlt, ← HQ.out]; rfl) HA.out
      · go_wp2_with fail
        go_ret
        obtain rfl : j = n := by omega
        have e : ys = (upTexts k j).map sv := eq_of_agree (by rw [own_len ho']; simp [upTexts_length]) (by simpa [upTexts_length] using HA.out)
        subst e
        exact ⟨rfl, ho', hg⟩

theorem heldStringS_b {B : Nat} (A : Option Addr) (c n k : Nat) (w : World) (h : Rd w B A ((upTexts k n).map sv)) (hn : n ≤ 1048576) (hk : k ≤ 1048576) :
    Calls Try.prog 23 #[.slice A n c, .int .i64 k] w fun e w' => e = .returned (.int .i64 ((k + n : Nat) : Int)) ∧ Below w.heap.size w w' := by
  have hfl := h.full
  clear h
  go_enter Try.func23, Try.ntmps23
  go_wp2_with fail
  go_loopg [1, 5] n (fun l q i wr => ∃ j : Nat, j ≤ n ∧ l = n - j ∧ i = .int .i64 j ∧ q = .int .i64 ((k + j : Nat) : Int) ∧ Below w.heap.size w wr)
  case atStart => exact ⟨0, Nat.zero_le _, rfl, rfl, rfl, Below.refl _ _⟩
  case round =>
    obtain ⟨j, hj, rfl, rfl, rfl, hb⟩ := hrel
    by_cases hlt : j < n
    · obtain ⟨ad, rfl, _, hc⟩ := (hfl.below hb).str (k := j) (by rw [upTexts_length]; exact hlt)
      have e : (upTexts k n)[j]'(by rw [upTexts_length]; exact hlt) = markT (k + j) := by simp [upTexts]
      rw [e] at hc
      clear e
      have z1 : (0 : Int) ≤ (j : Int) := by omega
      have z2 : (j : Int) < (n : Int) := by omega
      generalize hq : k + j = q at hc ⊢
      have HQ := Lib.hid hq
      have hqb : q + 1 ≤ 100000000 := by omega
      have hss : (!((markT q).toList == (markT q).toList)) = false := by simp
      clear hq
      have HM := Lib.hid (fun W => markText_any q W (by omega))
      go_wp2_with fail
      go_region_held3 (fun w' => Below wr.heap.size wr w' ∧ w'.cell? (ad.add j) = some (.string (markT q)))
        (first | exact ⟨(Below.refl _ _).drew, hc⟩ | assumption | (go_split_ands; refine ⟨below_trans' (by assumption) hb1, ?_⟩ <;> exact cell_below hb1 (by assumption)))
        (first | (go_at_call 61; go_split_ands; refine (HM.out _).mono ?_; rintro e w1 ⟨rfl, hb1⟩))
      rename_i hS
      go_wp2_with fail
      go_roundg (n - (j + 1))
      case measure => omega
      case rel => exact ⟨j + 1, by omega, rfl, by go_num, by rw [← Nat.add_assoc, HQ.out]; go_num, below_trans' hb hS.1⟩
    · obtain rfl : j = n := by omega
      go_wp2_with fail
      go_ret
      exact ⟨rfl, hb⟩

/-- The names of the locks among the first j that are in s. -/
def nameAt (k : Cd) (i : Nat) : ByteArray := (k.locks[i]?).getD ⟨#[]⟩
def namesTo (k : Cd) (s : Int) (j : Nat) : List ByteArray := ((List.range j).filter fun i : Nat => inSetB s (i : Int)).map (nameAt k)
theorem namesTo_succ (k : Cd) (s : Int) (j : Nat) : namesTo k s (j + 1) = if inSetB s j = true then namesTo k s j ++ [nameAt k j] else namesTo k s j := by
  unfold namesTo
  rw [List.range_succ, List.filter_append, List.map_append]
  by_cases h : inSetB s j = true
  · simp [h]
  · simp [h]
theorem namesTo_len (k : Cd) (s : Int) (j : Nat) : (namesTo k s j).length ≤ j := by
  unfold namesTo
  rw [List.length_map]
  exact Nat.le_trans (List.length_filter_le _ _) (by simp)
/-- What NamesOf answers. -/
def namesN (k : Cd) (s : Int) : List ByteArray := if codeOkI k = true then namesTo k s k.locks.length else []
theorem nameAt_get {k : Cd} {i : Nat} (h : i < k.locks.length) : k.locks[i] = nameAt k i := by simp [nameAt, h]
/-- The names of the numbers of a list that there are. -/
def namesL (k : Cd) (l : List Nat) : List ByteArray := (l.filter fun i => decide (i < k.locks.length)).map (nameAt k)
theorem namesL_snoc (k : Cd) (l : List Nat) (i : Nat) : namesL k (l ++ [i]) = if i < k.locks.length then namesL k l ++ [nameAt k i] else namesL k l := by
  unfold namesL
  rw [List.filter_append, List.map_append]
  by_cases h : i < k.locks.length
  · simp [h]
  · simp [h]
theorem namesL_len (k : Cd) (l : List Nat) : (namesL k l).length ≤ l.length := by
  unfold namesL
  rw [List.length_map]
  exact List.length_filter_le _ _
theorem range_filter_lt {n m : Nat} (h : n ≤ m) (p : Nat → Bool) : (List.range m).filter (fun i => p i && decide (i < n)) = (List.range n).filter p := by
  induction m with
  | zero =>
    obtain rfl : n = 0 := by omega
    rfl
  | succ m ih =>
    rw [List.range_succ, List.filter_append]
    rcases Nat.lt_or_ge m n with h1 | h1
    · obtain rfl : n = m + 1 := by omega
      have e : (List.range m).filter (fun i => p i && decide (i < m + 1)) = (List.range m).filter p := List.filter_congr fun x hx => by
        have := List.mem_range.1 hx
        rw [decide_eq_true (by omega : x < m + 1), Bool.and_true]
      rw [e, List.range_succ, List.filter_append]
      simp [List.filter_cons]
    · rw [ih h1]
      simp; omega
/-- The list that the reference goes through. -/
def listNat (s : Int) : List Nat := if isSetB s then bitsTo s.toNat 6 else []
theorem listOf_nat (s : Int) : listOf s = (listNat s).map natI := by
  unfold listOf listNat
  split
  · rename_i h
    obtain ⟨n, rfl, hn⟩ := isSetB_nat h
    exact bitsL_six n hn
  · rfl
theorem listNat_len (s : Int) : (listNat s).length ≤ 6 := by
  unfold listNat
  split
  · exact bitsTo_len _ _
  · simp
theorem namesL_all {k : Cd} (hr : Right k) (s : Int) : namesL k (listNat s) = namesTo k s k.locks.length := by
  have hl := hr.locks
  unfold namesL listNat namesTo
  congr 1
  cases hs : isSetB s
  · simp [inSetB, hs]
  · simp only [if_true, bitsTo]
    rw [List.filter_filter]
    have e : (List.range 6).filter (fun i => decide (i < k.locks.length) && s.toNat.testBit i) = (List.range 6).filter (fun i => s.toNat.testBit i && decide (i < k.locks.length)) := List.filter_congr fun x _ => Bool.and_comm _ _
    rw [e, range_filter_lt (by omega)]
    refine List.filter_congr fun x hx => ?_
    have := List.mem_range.1 hx
    simp [inSetB, hs]
    omega
/-- A new list of texts. -/
def NewTexts (w : World) (xs : List ByteArray) (e : Ending) (w' : World) : Prop := NewRow w 9 1 xs.length (xs.map sv) e w'

set_option maxHeartbeats 1000000 in
theorem lockNames_any {B : Nat} (v : CV) (k : Cd) (s : Int) (w : World) (hr : Right k) (hk : CodeAt w B v k) :
    Calls Try.prog 58 #[.agg #[.slice v.gA k.globals.length v.gc, .slice v.lA k.locks.length v.lc, .slice v.pA k.procs.length v.pc, .slice v.eA k.entry.length v.ec, .slice v.iA k.ins.length v.ic], .int .i64 s] w (NewTexts w (namesTo k s k.locks.length)) := by
  have hbx := codeBox w v k
  have hkf := (hk.full.below hbx.1).full
  have hlk := hr.locks
  clear hk hr
  go_enter Try.func58, Try.ntmps58
  go_wp2_with fail
  generalize w.alloc (.cells #[.slice v.gA k.globals.length v.gc, .slice v.lA k.locks.length v.lc, .slice v.pA k.procs.length v.pc, .slice v.eA k.entry.length v.ec, .slice v.iA k.ins.length v.ic] 31) = W at hbx hkf ⊢
  obtain ⟨hbw, hsz, c0, c1, c2, c3, c4⟩ := id hbx
  go_wp2_with fail
  clear c0 c1 c2 c3 c4
  go_loopg [5, 11] k.locks.length (fun l out i wr => ∃ j : Nat, j ≤ k.locks.length ∧ l = k.locks.length - j ∧ i = .int .i64 j ∧ wr.ownsRow W.heap.size 9 1 out (namesTo k s j).length ((namesTo k s j).map sv) ∧ Below W.heap.size W wr)
  case atStart => exact ⟨0, by omega, by omega, rfl, World.ownsRow_nil _ _ _ _, Below.refl _ _⟩
  case round =>
    obtain ⟨j, hj, rfl, rfl, ho, hb⟩ := hrel
    obtain ⟨Ao, co, rfl⟩ := own_form ho
    have hll := namesTo_len k s j
    have hszb := hb.size
    by_cases hlt : j < k.locks.length
    · obtain ⟨ad, ee, _, hc⟩ := (hkf.below hb).l.str hlt
      rw [nameAt_get hlt] at hc
      have HT := Lib.hid (namesTo_succ k s j)
      have HE := Lib.hid ee
      rw [ee]
      clear ee
      generalize nameAt k j = nm at *
      cases hin : inSetB s j
      · have HIN := Lib.hid hin
        clear hin
        go_wp2_with fail
        refine (inSet_i s j _).mono ?_
        rintro e w2 ⟨rfl, rfl⟩
        rw [HIN.out]
        go_wp2_with fail
        rw [← HE.out]
        go_roundg (k.locks.length - (j + 1))
        case measure => omega
        case rel => exact ⟨j + 1, by omega, rfl, by go_num, by rw [HT.out, if_neg (by rw [HIN.out]; simp)]; exact ho, hb⟩
      · have HIN := Lib.hid hin
        clear hin
        go_wp2_with fail
        refine (inSet_i s j _).mono ?_
        rintro e w2 ⟨rfl, rfl⟩
        rw [HIN.out]
        go_wp2_with (at_builtin; refine append_str rfl _ _ rfl ho rfl rfl (by omega) hszb ?_; intro A' c' w3 ho3 hg3 hl3)
        rw [← HE.out]
        go_roundg (k.locks.length - (j + 1))
        case measure => omega
        case rel =>
          refine ⟨j + 1, by omega, rfl, by go_num, ?_, below_append hb ho hg3 hszb (Nat.le_refl _)⟩
          rw [HT.out, if_pos HIN.out, List.length_append]
          exact ho3
    · obtain rfl : j = k.locks.length := by omega
      go_wp2_with fail
      go_ret
      exact ⟨Ao, co, rfl, own_mono ho (by omega), below_trans' hbw hb⟩

theorem namesN_len {k : Cd} {s : Int} : (namesN k s).length ≤ 6 := by
  unfold namesN
  split
  · rename_i h
    have := (right_of h).locks
    have := namesTo_len k s k.locks.length
    omega
  · simp
theorem newTexts_nil {w w' : World} {xs : List ByteArray} (h : xs = []) (hb : Below w.heap.size w w') : NewTexts w xs (.returned (.slice none 0 0)) w' := by
  subst h
  exact ⟨none, 0, rfl, World.ownsRow_nil _ _ _ _, hb⟩
set_option maxHeartbeats 1000000 in
theorem namesOf_i {B L : Nat} (v : CV) (k : Cd) (s : Int) (w : World) (hk : CodeAt w B v k) (hcb : CdB L k) (hL : L ≤ 1048576) :
    Calls Try.prog 18 #[.agg #[.slice v.gA k.globals.length v.gc, .slice v.lA k.locks.length v.lc, .slice v.pA k.procs.length v.pc, .slice v.eA k.entry.length v.ec, .slice v.iA k.ins.length v.ic], .int .i64 s] w (NewTexts w (namesN k s)) := by
  have hkf := hk.full
  have hbx := codeBox w v k
  have HC := fun W (h : CodeAt W w.heap.size v k) => codeOk_i v k W h hcb (by omega)
  cases hok : codeOkI k
  · rw [hok] at HC
    have HC := Lib.hid HC
    have HZ := Lib.hid (show namesN k s = [] from by rw [namesN, if_neg (by rw [hok]; simp)])
    clear hok hcb hk
    go_enter Try.func18, Try.ntmps18
    go_wp2_with fail
    generalize w.alloc (.cells #[.slice v.gA k.globals.length v.gc, .slice v.lA k.locks.length v.lc, .slice v.pA k.procs.length v.pc, .slice v.eA k.entry.length v.ec, .slice v.iA k.ins.length v.ic] 31) = W at hbx ⊢
    refine (HC.out _ (hkf.below hbx.1)).mono ?_
    rintro e w1 ⟨rfl, hb1⟩
    go_wp2_with fail
    go_ret
    exact newTexts_nil HZ.out (below_trans' hbx.1 hb1)
  · rw [hok] at HC
    have HC := Lib.hid HC
    have hr := right_of hok
    have HN := Lib.hid (fun W (h : CodeAt W w.heap.size v k) => lockNames_any v k s W hr h)
    have HZ := Lib.hid (show namesN k s = namesTo k s k.locks.length from by rw [namesN, if_pos hok])
    clear hok hcb hk hr
    go_enter Try.func18, Try.ntmps18
    go_wp2_with fail
    generalize w.alloc (.cells #[.slice v.gA k.globals.length v.gc, .slice v.lA k.locks.length v.lc, .slice v.pA k.procs.length v.pc, .slice v.eA k.entry.length v.ec, .slice v.iA k.ins.length v.ic] 31) = W at hbx ⊢
    refine (HC.out _ (hkf.below hbx.1)).mono ?_
    rintro e w1 ⟨rfl, hb1⟩
    have hbx1 := hbx.to hb1
    obtain ⟨q1, q2, c0, c1, c2, c3, c4⟩ := id hbx1
    go_wp2_with fail
    refine (HN.out _ (hkf.below hbx1.1)).mono ?_
    rintro e w2 ⟨A2, c2', rfl, ho2, hb2⟩
    go_wp2_with fail
    go_ret
    rw [HZ.out]
    exact ⟨A2, c2', rfl, own_mono ho2 q1.size, below_trans' q1 hb2⟩

/-- The answer's list of texts laid down ahead of all. -/
theorem preTexts (w : World) (v : CV) (k : Cd) : CodeBox w v k ((w.alloc (.cells #[.slice v.gA k.globals.length v.gc, .slice v.lA k.locks.length v.lc, .slice v.pA k.procs.length v.pc, .slice v.eA k.entry.length v.ec, .slice v.iA k.ins.length v.ic] 31)).alloc (.cells #[] 9)) ∧ ((w.alloc (.cells #[.slice v.gA k.globals.length v.gc, .slice v.lA k.locks.length v.lc, .slice v.pA k.procs.length v.pc, .slice v.eA k.entry.length v.ec, .slice v.iA k.ins.length v.ic] 31)).alloc (.cells #[] 9)).ownsRow (w.heap.size + 1) 9 1 (.slice (some ⟨w.heap.size + 1, 0, none⟩) 0 0) 0 (([] : List ByteArray).map sv) := by
  refine ⟨(codeBox w v k).to (below_alloc0 _ _), ?_⟩
  have := World.ownsRow_lit (base := w.heap.size + 1) (e := 9) (size := 1) (w.alloc (.cells #[.slice v.gA k.globals.length v.gc, .slice v.lA k.locks.length v.lc, .slice v.pA k.procs.length v.pc, .slice v.eA k.entry.length v.ec, .slice v.iA k.ins.length v.ic] 31)) #[] 0 (by simp) (by simp) rfl
  simpa using this
/-- append(out, s) of a text, as one operation of a region. -/
theorem append_str_op {o : Oper} {a : Act} {Q : Exit → Act → World → Prop} {K : Act → World → Prop} {wr : World} (s x : Operand) (ho : o.op = .call { callee := .builtin .append, args := #[s, x], argTypes := #[22, 22] })
    {base : Nat} {v : Value} {n : Nat} {xs : List ByteArray} {z : ByteArray} (hown : wr.ownsRow base 9 1 v n (xs.map sv)) (hs : a.eval s = v) (hx : a.eval x = .slice (some ⟨wr.heap.size, 0, none⟩) 1 1)
    (hn : n ≤ 1099511627775) (hbase : base ≤ wr.heap.size)
    (hK : ∀ A c w', w'.ownsRow base 9 1 (.slice A (n + 1) c) (n + 1) ((xs ++ [z]).map sv) → wr.grownBy w' v.ownBlock → ((Value.slice A (n + 1) c).ownBlock = v.ownBlock ∨ (Value.slice A (n + 1) c).ownBlock = some (wr.heap.size + 1)) →
      K (a.put o.dst (.slice A (n + 1) c)) w') : Oper.wp Try.prog o a (wr.alloc (.cells #[.string z] 9)) K Q := by
  obtain ⟨i0, hi, hz0, hz1, hz2⟩ := info_parts info_string
  have hcells : ∀ j u, [Value.string z][j]? = some u → (wr.alloc (.cells #[.string z] 9)).cell? ((⟨wr.heap.size, 0, none⟩ : Addr).add j) = some u := by
    intro j u hu
    rw [add_mk, cell_of_row _ _ _ _ _ _ (heap_alloc_new wr _)]
    simpa using hu
  obtain ⟨v', w', hr, h2, h3, _, h4⟩ := run_append_own_at (P := Try.prog) (wr.alloc (.cells #[.string z] 9)) base 22 o.type 9 i0 (.string ⟨#[]⟩) 1 16 Try.underlying22 hi hz0 hz1 hz2 rfl (by omega) v n (xs.map sv) (hown.alloc _) ⟨wr.heap.size, 0, none⟩ 1 1 [.string z]
    rfl hcells (by simp [Value.oneCell']) (by unfold maxLen; omega) (by omega) (by simp; omega)
  obtain ⟨A, c, rfl⟩ := own_form h2
  have hgr : wr.grownBy w' v.ownBlock := (World.grownBy_alloc wr _ _).trans h3
  unfold Oper.wp execOp
  simp only [ho, resolve, invoke, builtin, Sem.run_bind, Sem.run_pure, Result.andThen_ok, List.map_toArray, List.map_cons, List.map_nil, hs, hx, hr]
  exact hK A c w' (by simpa [sv] using h2) hgr (by simpa using h4)
set_option maxHeartbeats 2000000 in
theorem namesOf_s {B L : Nat} (v : CV) (k : Cd) (s : Int) (w : World) (hk : CodeAt w B v k) (hcb : CdB L k) (hL : L ≤ 1048576) :
    Calls Try.prog 16 #[.agg #[.slice v.gA k.globals.length v.gc, .slice v.lA k.locks.length v.lc, .slice v.pA k.procs.length v.pc, .slice v.eA k.entry.length v.ec, .slice v.iA k.ins.length v.ic], .int .i64 s] w (NewTexts w (namesN k s)) := by
  have hkf := hk.full
  obtain ⟨hbx, hpo⟩ := preTexts w v k
  have HC := fun W (h : CodeAt W w.heap.size v k) => codeOk_sI v k W h hcb (by omega)
  have HL := fun W => listOf_s s W
  rw [listOf_nat] at HL
  have HL := Lib.hid HL
  have hll := listNat_len s
  cases hok : codeOkI k
  · rw [hok] at HC
    have HC := Lib.hid HC
    have HZ := Lib.hid (show namesN k s = [] from by rw [namesN, if_neg (by rw [hok]; simp)])
    clear hok hcb hk
    generalize listNat s = ls at *
    go_enter Try.func16, Try.ntmps16
    go_wp2_with fail
    generalize (w.alloc (.cells #[.slice v.gA k.globals.length v.gc, .slice v.lA k.locks.length v.lc, .slice v.pA k.procs.length v.pc, .slice v.eA k.entry.length v.ec, .slice v.iA k.ins.length v.ic] 31)).alloc (.cells #[] 9) = W at hbx hpo ⊢
    refine (HL.out _).mono ?_
    rintro e w1 ⟨Al, cl, rfl, hol, hb1⟩
    have hbx1 := hbx.to hb1
    have hpo1 := own_below hpo hb1
    obtain ⟨q1, q2, c0, c1, c2, c3, c4⟩ := id hbx1
    go_wp2_with fail
    go_loopg [5, 7] 0 (fun l out i wr => l = 0 ∧ out = .slice (some ⟨w.heap.size + 1, 0, none⟩) 0 0 ∧ i = .int .i64 0 ∧ w1 = wr)
    case atStart => exact ⟨rfl, rfl, rfl, rfl⟩
    case round =>
      obtain ⟨rfl, rfl, rfl, rfl⟩ := hrel
      go_wp2_with fail
      refine (HC.out _ (hkf.below q1)).mono ?_
      rintro e w2 ⟨rfl, hb2⟩
      go_wp2_with fail
      go_ret
      rw [HZ.out]
      exact ⟨_, _, rfl, own_mono (own_below hpo1 hb2) (by omega), below_trans' q1 hb2⟩
  · rw [hok] at HC
    have HC := Lib.hid HC
    have hr := right_of hok
    have hlk := hr.locks
    have HALL := Lib.hid (show namesN k s = namesL k (listNat s) from by rw [namesN, if_pos hok, namesL_all hr])
    clear hok hcb hk hr
    generalize listNat s = ls at *
    rw [List.length_map] at HL
    go_enter Try.func16, Try.ntmps16
    go_wp2_with fail
    generalize (w.alloc (.cells #[.slice v.gA k.globals.length v.gc, .slice v.lA k.locks.length v.lc, .slice v.pA k.procs.length v.pc, .slice v.eA k.entry.length v.ec, .slice v.iA k.ins.length v.ic] 31)).alloc (.cells #[] 9) = W at hbx hpo ⊢
    have hW1 := hbx.2.1
    refine (HL.out _).mono ?_
    rintro e w1 ⟨Al, cl, rfl, hol, hb1⟩
    have hol : w1.ownsRow W.heap.size 3 1 (.slice Al ls.length cl) ls.length (nv ls) := hol
    have hbx1 := hbx.to hb1
    have hpo1 := own_below hpo hb1
    have hap : Apart (.slice Al ls.length cl) (.slice (some ⟨w.heap.size + 1, 0, none⟩) 0 0) := fun b h1 h2 => by
      have h3 := (hol.lt b h1).1
      have h4 := (hpo.lt b h2).2
      omega
    clear hbx hpo hb1
    go_wp2_with fail
    go_loopg [5, 7] ls.length (fun l out i wr => ∃ j : Nat, j ≤ ls.length ∧ l = ls.length - j ∧ i = .int .i64 j ∧ wr.ownsRow (w.heap.size + 1) 9 1 out (namesL k (ls.take j)).length ((namesL k (ls.take j)).map sv) ∧ CodeBox w v k wr ∧ wr.ownsRow W.heap.size 3 1 (.slice Al ls.length cl) ls.length (nv ls) ∧ Apart (.slice Al ls.length cl) out)
    case atStart => exact ⟨0, by omega, by omega, rfl, hpo1, hbx1, hol, hap⟩
    case round =>
      clear hpo1 hbx1 hol hap
      obtain ⟨j, hj, rfl, rfl, ho, hbx, hol, hap⟩ := hrel
      obtain ⟨Ao, co, rfl⟩ := own_form ho
      have hnl := namesL_len k (ls.take j)
      have htl : (ls.take j).length ≤ 6 := by rw [List.length_take]; omega
      obtain ⟨q1, q2, c0, c1, c2, c3, c4⟩ := id hbx
      go_wp2_with fail
      refine (HC.out _ (hkf.below q1)).mono ?_
      rintro e w2 ⟨rfl, hb2⟩
      clear c0 c1 c2 c3 c4 q1 q2
      have hbx2 := hbx.to hb2
      have ho2 := own_below ho hb2
      have hol2 := own_below hol hb2
      clear ho hbx hol hb2
      by_cases hlt : j < ls.length
      · obtain ⟨ad, rfl, _, hc⟩ := (own_rd hol2).nat hlt
        have HT := Lib.hid (show namesL k (ls.take (j + 1)) = _ from by rw [List.take_succ_eq_append_getElem hlt, namesL_snoc])
        generalize ls[j] = x at *
        have z1 : (0 : Int) ≤ (j : Int) := by omega
        have z2 : (j : Int) < (ls.length : Int) := by omega
        obtain ⟨q1, q2, c0, c1, c2, c3, c4⟩ := id hbx2
        by_cases hx : x < k.locks.length
        · obtain ⟨al, eL, hbal, hcl⟩ := (hkf.below q1).l.str hx
          rw [nameAt_get hx] at hcl
          rw [eL] at c1
          clear eL
          have HT2 := Lib.hid (show namesL k (ls.take (j + 1)) = namesL k (ls.take j) ++ [nameAt k x] from by rw [HT.out, if_pos hx])
          generalize namesL k (ls.take j) = out0 at *
          have y1 : (0 : Int) ≤ (x : Int) := by omega
          have y2 : (x : Int) < (k.locks.length : Int) := by omega
          go_wp2_with fail
          go_quiet (fail)
          have hbx3 := hbx2.to (below_drewN (Below.refl w2.heap.size w2) nq)
          have ho3 : (w2.drewN nq).ownsRow (w.heap.size + 1) 9 1 (.slice Ao out0.length co) out0.length (out0.map sv) := ho2
          have hol3 : (w2.drewN nq).ownsRow W.heap.size 3 1 (.slice (some ad) ls.length cl) ls.length (nv ls) := hol2
          have hc3 : (w2.drewN nq).cell? (ad.add j) = some (.int .i64 (x : Int)) := hc
          have hcl3 : (w2.drewN nq).cell? (al.add x) = some (.string (nameAt k x)) := hcl
          have hc13 : (w2.drewN nq).cell? ⟨w.heap.size, 1, none⟩ = some (.slice (some al) k.locks.length v.lc) := c1
          clear q1 q2 c0 c1 c2 c3 c4 hc hcl ho2 hol2 hbx2
          generalize w2.drewN nq = w3 at *
          go_wp2_with fail
          have hbx4 := hbx3.to (Below.refl w3.heap.size w3).drew
          have ho4 : w3.drew.ownsRow (w.heap.size + 1) 9 1 (.slice Ao out0.length co) out0.length (out0.map sv) := ho3
          have hol4 : w3.drew.ownsRow W.heap.size 3 1 (.slice (some ad) ls.length cl) ls.length (nv ls) := hol3
          have d1 : w3.drew.cell? ⟨w.heap.size, 1, none⟩ = some (.slice (some al) k.locks.length v.lc) := hc13
          have d2 : w3.drew.cell? (ad.add j) = some (.int .i64 (x : Int)) := hc3
          have d3 : w3.drew.cell? (al.add x) = some (.string (nameAt k x)) := hcl3
          have n1 : some (⟨w.heap.size, 1, none⟩ : Addr).block ≠ (Value.slice Ao out0.length co).ownBlock := fun h => by
            have := (ho4.lt _ h.symm).1
            simp at this
            omega
          have n2 : some (ad.add j).block ≠ (Value.slice Ao out0.length co).ownBlock := fun h => by
            rw [block_of_add] at h
            exact hap ad.block rfl h.symm
          have n3 : some (al.add x).block ≠ (Value.slice Ao out0.length co).ownBlock := fun h => by
            rw [block_of_add] at h
            have := (ho4.lt _ h.symm).1
            omega
          have hsz : w.heap.size + 1 ≤ w3.drew.heap.size := hbx4.2.1
          have hou : out0.length ≤ 1099511627775 := by omega
          clear hc3 hcl3 hc13 hbx3 ho3 hol3
          go_region_held3 (fun w' => w'.cell? ⟨w.heap.size, 1, none⟩ = some (.slice (some al) k.locks.length v.lc) ∧ w'.cell? (ad.add j) = some (.int .i64 (x : Int)) ∧ w'.cell? (al.add x) = some (.string (nameAt k x)))
            (first | exact ⟨d1, d2, d3⟩ | exact ⟨cell_below (below_alloc0 _ _) d1, cell_below (below_alloc0 _ _) d2, cell_below (below_alloc0 _ _) d3⟩ | exact ⟨hg5.cell d1 n1, hg5.cell d2 n2, hg5.cell d3 n3⟩)
            (first | (refine q_yes (by rfl) ?_; refine append_str_op _ _ rfl ho4 rfl rfl hou hsz ?_; intro A' c' w5 ho5 hg5 hl5))
          go_wp2_with fail
          go_roundg (ls.length - (j + 1))
          case measure => omega
          case rel =>
            refine ⟨j + 1, by omega, rfl, by go_num, ?_, hbx4.app ho4 hg5 (by omega), hol4.kept hg5 hap.kept, ?_⟩
            · rw [HT2.out, List.length_append]; exact ho5
            · intro b h1 h2
              rcases hl5 with h3 | h3
              · rw [h3] at h2; exact hap b h1 h2
              · rw [h3] at h2
                have := (hol4.lt b h1).2
                injection h2 with h2
                omega
        · have y2 : ¬ (x : Int) < (k.locks.length : Int) := by omega
          have HT2 := Lib.hid (show namesL k (ls.take (j + 1)) = namesL k (ls.take j) from by rw [HT.out, if_neg hx])
          clear hx
          go_wp2_with fail
          go_quiet (fail)
          go_wp2_with fail
          go_roundg (ls.length - (j + 1))
          case measure => omega
          case rel => exact ⟨j + 1, by omega, rfl, by go_num, by rw [HT2.out]; exact ho2, hbx2.to (below_drewN (Below.refl _ _) _), hol2, hap⟩
      · obtain rfl : j = ls.length := by omega
        go_wp2_with fail
        go_ret
        rw [HALL.out, ← List.take_length (l := ls)]
        exact ⟨_, _, rfl, own_mono ho2 (by omega), hbx2.1⟩
end Go.Proofs.Ytimnjiicdjfjfaa
