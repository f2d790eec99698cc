/- Contracts of ReadsOf and of what it calls, of the program and of the reference. -/
import Derived.Test.YtjnlmiekldflhaaTermsS
set_option linter.unusedSimpArgs false
set_option linter.unusedVariables false
namespace Go.Proofs.Ytjnlmiekldflhaa
open Go.ChangeShapes Go.WideShapes Go.ChangeAt Go.RowKit

theorem info_string : (Try.prog.info? 9).map (fun i => (i.zero, i.size, i.bytes)) = some (some (.string ⟨#[]⟩), 1, 16) := by kernel_rfl
/-- append(out, s) of a text. -/
theorem append_str {ops : Array Oper} {rest : List Oper} {o : Oper} {a : Act} {Q : Exit → Act → World → Prop} {wr : World} (hgd : o.guard = none) (s x : Operand) (ho : o.op = .call { callee := .builtin .append, args := #[s, x], argTypes := #[22, 22] })
    {base : Nat} {v : Value} {n : Nat} {xs : List ByteArray} {z : ByteArray} (hown : wr.ownsRow base 9 1 v n (xs.map sv)) (hs : a.eval s = v) (hx : a.eval x = .slice (some ⟨wr.heap.size, 0, none⟩) 1 1)
    (hn : n ≤ 1099511627775) (hbase : base ≤ wr.heap.size)
    (hK : ∀ A c w', w'.ownsRow base 9 1 (.slice A (n + 1) c) (n + 1) ((xs ++ [z]).map sv) → wr.grownBy w' v.ownBlock → ((Value.slice A (n + 1) c).ownBlock = v.ownBlock ∨ (Value.slice A (n + 1) c).ownBlock = some (wr.heap.size + 1)) →
      wpList Try.prog ops Q rest (a.put o.dst (.slice A (n + 1) c)) w') : wpList Try.prog ops Q (o :: rest) a (wr.alloc (.cells #[.string z] 9)) :=
  append_cells Try.underlying22 info_string rfl (by omega) (by omega) hgd s x ho [.string z] hown hs hx rfl (by simp [Value.oneCell']) hn hbase
    fun A c w' h1 h2 h3 => hK A c w' (by simpa [sv] using h1) h2 h3

/-- One more name, when it is not there. -/
def addOnce (acc : List ByteArray) (s : ByteArray) : List ByteArray := if s ∈ acc then acc else acc ++ [s]
/-- What a function answers that adds to a list of texts of its caller's: the list anew, at base or above. -/
def Grew (w : World) (base : Nat) (t : TypeId) (ss : List ByteArray) (e : Ending) (w' : World) : Prop :=
  ∃ A c, e = .returned (.slice A ss.length c) ∧ w'.ownsRow base t 1 (.slice A ss.length c) ss.length (ss.map sv) ∧ Below base w w'

theorem addOnce_any {base : Nat} (A : Option Addr) (c : Nat) (acc : List ByteArray) (s : ByteArray) (w : World) (ho : w.ownsRow base 9 1 (.slice A acc.length c) acc.length (acc.map sv)) (hn : acc.length ≤ 1000000) (hB : base ≤ w.heap.size) :
    Calls Try.prog 149 #[.slice A acc.length c, .string s] w (Grew w base 9 (addOnce acc s)) := by
  have hr := own_rd ho
  by_cases hm : s ∈ acc
  · have HM := Lib.hid hm
    have hd : decide (s ∈ acc) = true := decide_eq_true hm
    have HD := Lib.hid hd
    clear hm hd
    go_enter Try.func149, Try.ntmps149
    go_wp2_with (go_at_call 121; refine (sContains_any _ _ _ _ _ hr (by omega)).mono ?_; rintro e w' ⟨rfl, rfl⟩; rw [HD.out])
    go_ret
    have e : addOnce acc s = acc := by rw [addOnce, if_pos HM.out]
    rw [e]
    exact ⟨A, c, rfl, ho, Below.refl _ _⟩
  · have HM := Lib.hid hm
    have hd : decide (s ∈ acc) = false := decide_eq_false hm
    have HD := Lib.hid hd
    clear hm hd
    go_enter Try.func149, Try.ntmps149
    go_wp2_with (first
      | (go_at_call 121; refine (sContains_any _ _ _ _ _ hr (by omega)).mono ?_; rintro e w' ⟨rfl, rfl⟩; rw [HD.out])
      | (at_builtin; refine append_str rfl _ _ rfl ho rfl rfl (by omega) hB ?_; intro A' c' w1 ho1 hg1 _))
    go_ret
    have e : addOnce acc s = acc ++ [s] := by rw [addOnce, if_neg HM.out]
    rw [e]
    refine ⟨A', c', by simp, by simpa using ho1, below_append (Below.refl _ _) ho hg1 hB (Nat.le_refl _)⟩

/-- The names in a term, behind those that are there. -/
def readsF : Nat → Tm → List ByteArray → List ByteArray
  | 0, t, acc => if t.kind = 2 then addOnce acc t.name else acc
  | d + 1, t, acc => if t.kind = 2 then addOnce acc t.name else t.kids.foldl (fun acc t => readsF d t acc) acc

theorem addOnce_len (acc : List ByteArray) (s : ByteArray) : (addOnce acc s).length ≤ acc.length + 1 := by
  unfold addOnce; split <;> simp
theorem termOk_kids {d : Nat} {t : Tm} (h : termOk d t = true) (h2 : t.kind ≠ 2) : t.kids = [] ∨ ∃ d', d = d' + 1 ∧ t.kids.length ≤ 2 ∧ ∀ k ∈ t.kids, termOk d' k = true := by
  have leaf : leafOk t = true → t.kids = [] := by
    intro h
    simp only [leafOk, h2, Bool.or_eq_true, Bool.and_eq_true, decide_eq_true_eq, false_and, or_false] at h
    exact List.eq_nil_of_length_eq_zero h.2.2
  cases d with
  | zero => exact .inl (leaf h)
  | succ d =>
    simp only [termOk, Bool.or_eq_true, Bool.and_eq_true] at h
    rcases h with h | ⟨hn, ha⟩
    · exact .inl (leaf h)
    · obtain ⟨_, _, hl, _⟩ := nodeOk_parts hn
      exact .inr ⟨d, rfl, by rw [hl]; split <;> omega, by simpa using ha⟩
theorem readsF_len (d : Nat) : ∀ (t : Tm) (acc : List ByteArray), termOk d t = true → (readsF d t acc).length ≤ acc.length + 2 ^ d := by
  induction d with
  | zero =>
    intro t acc _
    unfold readsF
    split
    · exact addOnce_len _ _
    · omega
  | succ d ih =>
    intro t acc h
    unfold readsF
    split
    · have := addOnce_len acc t.name
      have := Nat.two_pow_pos (d + 1)
      omega
    · rename_i h2
      have key : ∀ (ks : List Tm) (acc : List ByteArray), (∀ k ∈ ks, termOk d k = true) → (ks.foldl (fun acc t => readsF d t acc) acc).length ≤ acc.length + ks.length * 2 ^ d := by
        intro ks
        induction ks with
        | nil => intro acc _; simp
        | cons k ks ihk =>
          intro acc hk
          have h1 := ihk (readsF d k acc) (fun x hx => hk x (by simp [hx]))
          have h2 := ih k acc (hk k (by simp))
          simp only [List.foldl_cons, List.length_cons, Nat.add_mul]
          omega
      rcases termOk_kids h h2 with h3 | ⟨d', e, hl, hk⟩
      · rw [h3]; simp
      · obtain rfl : d = d' := by omega
        have h4 := key t.kids acc hk
        have h5 : t.kids.length * 2 ^ d ≤ 2 * 2 ^ d := Nat.mul_le_mul_right _ hl
        rw [Nat.pow_succ]
        omega

/-- What addReads is to answer, for right terms, with d. -/
def AddReadsSaid (d : Nat) : Prop := ∀ {base L : Nat} (t : Tm) (A : Option Addr) (c : Nat) (LA : Option Addr) (lc : Nat) (acc : List ByteArray) (w : World), KidsAt w base A t.kids → TmB L t → L ≤ 1099511627776 → termOk d t = true →
    w.ownsRow base 9 1 (.slice LA acc.length lc) acc.length (acc.map sv) → base ≤ w.heap.size → acc.length + 2 ^ d ≤ 1000 →
    Calls Try.prog 141 #[.slice LA acc.length lc, .agg #[.int .i64 t.kind, .int .i64 t.num, .string t.name, .slice A t.kids.length c]] w (Grew w base 9 (readsF d t acc))

theorem foldl_take_succ {α β : Type} (f : β → α → β) (l : List α) (b : β) (k : Nat) (h : k < l.length) : (l.take (k + 1)).foldl f b = f ((l.take k).foldl f b) l[k] := by
  rw [List.take_succ_eq_append_getElem h, List.foldl_append]; rfl

theorem fold_len {d : Nat} {t : Tm} (ks : List Tm) (acc : List ByteArray) (hk : ∀ k ∈ ks, termOk d k = true) : (ks.foldl (fun acc t => readsF d t acc) acc).length ≤ acc.length + ks.length * 2 ^ d := by
  induction ks generalizing acc with
  | nil => simp
  | cons k ks ihk =>
    have h1 := ihk (readsF d k acc) (fun x hx => hk x (by simp [hx]))
    have h2 := readsF_len d k acc (hk k (by simp))
    simp only [List.foldl_cons, List.length_cons, Nat.add_mul]
    omega

theorem own_keep_alloc {w : World} {base : Nat} {e : TypeId} {n : Nat} {v : Value} {xs : List Value} (h : w.ownsRow base e 1 v n xs) (o : Obj) : (w.alloc o).ownsRow base e 1 v n xs := h.alloc o

theorem addReads_var {base L : Nat} (t : Tm) (A : Option Addr) (c : Nat) (LA : Option Addr) (lc : Nat) (acc : List ByteArray) (w : World) (h2 : t.kind = 2)
    (ho : w.ownsRow base 9 1 (.slice LA acc.length lc) acc.length (acc.map sv)) (hB : base ≤ w.heap.size) (hlen : acc.length ≤ 1000) :
    Calls Try.prog 141 #[.slice LA acc.length lc, .agg #[.int .i64 t.kind, .int .i64 t.num, .string t.name, .slice A t.kids.length c]] w (Grew w base 9 (addOnce acc t.name)) := by
  rw [h2]
  clear h2
  go_enter Try.func141, Try.ntmps141
  go_wp2_with fail
  refine (addOnce_any LA lc acc t.name _ (ho.alloc _) (by omega) (by simp; omega)).mono ?_
  rintro e w1 ⟨A1, c1, rfl, ho1, hb1⟩
  go_wp2_with fail
  go_ret
  exact ⟨A1, c1, rfl, ho1, ((Below.refl _ _).alloc hB _).trans hb1⟩

set_option maxHeartbeats 1000000 in
theorem addReads_any (d : Nat) : AddReadsSaid d := by
  induction d with
  | zero =>
    intro base L t A c LA lc acc w hk hb hL hok ho hB hlen
    by_cases h2 : t.kind = 2
    · have e : readsF 0 t acc = addOnce acc t.name := by rw [readsF, if_pos h2]
      rw [e]
      exact addReads_var (L := L) t A c LA lc acc w h2 ho hB (Nat.le_trans (Nat.le_add_right _ _) hlen)
    · have e2 : (t.kind == 2) = false := by simp [h2]
      have hkids : t.kids = [] := by
        rcases termOk_kids hok h2 with h | ⟨d', h, _⟩
        · exact h
        · omega
      have e : readsF 0 t acc = acc := by rw [readsF, if_neg h2]
      rw [e, hkids]
      clear e
      go_enter Try.func141, Try.ntmps141
      go_wp2_with fail
      go_loopw [0, 17] (fun v i wr => v = .slice LA acc.length lc ∧ i = .int .i64 0 ∧ wr.ownsRow base 9 1 (.slice LA acc.length lc) acc.length (acc.map sv) ∧ Below base w wr) (fun _ _ _ => 0)
      case atStart => exact ⟨rfl, rfl, ho.alloc _, (Below.refl _ _).alloc hB _⟩
      case round =>
        obtain ⟨rfl, rfl, ho1, hb1⟩ := hrel
        go_wp2_with fail
        go_ret
        exact ⟨LA, lc, rfl, ho1, hb1⟩
  | succ d ih =>
    intro base L t A c LA lc acc w hk hb hL hok ho hB hlen
    by_cases h2 : t.kind = 2
    · have e : readsF (d + 1) t acc = addOnce acc t.name := by rw [readsF, if_pos h2]
      rw [e]
      exact addReads_var (L := L) t A c LA lc acc w h2 ho hB (Nat.le_trans (Nat.le_add_right _ _) hlen)
    · have e2 : (t.kind == 2) = false := by simp [h2]
      have HO := Lib.hid (show readsF (d + 1) t acc = t.kids.foldl (fun acc t => readsF d t acc) acc from by rw [readsF, if_neg h2])
      have hkok : t.kids.length ≤ 2 ∧ ∀ k ∈ t.kids, termOk d k = true := by
        rcases termOk_kids hok h2 with h | ⟨d', h, h3, h4⟩
        · rw [h]; exact ⟨by simp, by simp⟩
        · obtain rfl : d = d' := by omega
          exact ⟨h3, h4⟩
      obtain ⟨hl2, hkok⟩ := hkok
      have HKO := Lib.hid hkok
      have hlen' : acc.length + 2 * 2 ^ d ≤ 1000 := by rw [Nat.pow_succ] at hlen; omega
      have HLEN := Lib.hid hlen'
      clear hkok hlen hlen' h2
      go_enter Try.func141, Try.ntmps141
      go_wp2_with fail
      go_loopw [0, 17] (fun v i wr => ∃ (k : Nat) (LA' : Option Addr) (lc' : Nat) (acc' : List ByteArray), k ≤ t.kids.length ∧ i = .int .i64 k ∧ acc' = (t.kids.take k).foldl (fun acc t => readsF d t acc) acc ∧ v = .slice LA' acc'.length lc' ∧
          wr.ownsRow base 9 1 (.slice LA' acc'.length lc') acc'.length (acc'.map sv) ∧ Below base w wr) (fun _ i _ => t.kids.length - (intOf i).toNat)
      case atStart => exact ⟨0, LA, lc, acc, by omega, rfl, rfl, rfl, ho.alloc _, (Below.refl _ _).alloc hB _⟩
      case round =>
        obtain ⟨k, LA', lc', acc', hkl, rfl, hacc, rfl, ho1, hb1⟩ := hrel
        have HA := Lib.hid hacc
        clear hacc
        have hsz := hb1.size
        by_cases hlt : k < t.kids.length
        · have hkr := hk.below hb1
          obtain ⟨ad, A', c', rfl, hbk, c0, c1, c2, c3, hkk⟩ := hkr.get hlt
          have hbk' : (ad.add (k * 4)).block < wr.heap.size := by omega
          have HF := Lib.hid (foldl_take_succ (fun acc t => readsF d t acc) t.kids acc k hlt)
          have hal : acc'.length + 2 ^ d ≤ 1000 := by
            have h1 := fold_len (t := t) (t.kids.take k) acc (d := d) (fun x hx => HKO.out x (List.mem_of_mem_take hx))
            rw [← HA.out, List.length_take_of_le hkl] at h1
            have h2 := HLEN.out
            have h3 : k * 2 ^ d ≤ 1 * 2 ^ d := Nat.mul_le_mul_right _ (by omega)
            omega
          have HAL := Lib.hid hal
          clear hal
          go_wp2_with fail
          refine (ih t.kids[k] A' c' LA' lc' acc' _ (hkk.below ((Below.refl _ _).alloc (by omega) _)) (hb.kid k hlt) hL (HKO.out _ (List.getElem_mem hlt)) (ho1.alloc _) (by simp; omega) HAL.out).mono ?_
          rintro e w1 ⟨A1, c1, rfl, ho2, hb2⟩
          go_wp2_with fail
          go_roundw
          case rel => exact ⟨k + 1, A1, c1, _, by omega, by go_num, by rw [HF.out, ← HA.out], rfl, ho2, (hb1.alloc (by omega) _).trans hb2⟩
          case measure => simp [intOf]; omega
        · go_wp2_with fail
          go_ret
          have e : acc' = readsF (d + 1) t acc := by rw [HO.out, HA.out, List.take_of_length_le (by omega)]
          rw [← e]
          exact ⟨LA', lc', rfl, ho1, hb1⟩

/-- What ReadsOf answers. -/
def readsOf (t : Tm) : List ByteArray := if termOk 6 t then readsF 6 t [] else []

theorem readsOf_i {B L : Nat} (t : Tm) (A : Option Addr) (c : Nat) (w : World) (hk : KidsAt w B A t.kids) (hb : TmB L t) (hL : L ≤ 1099511627776) :
    Calls Try.prog 124 #[.agg #[.int .i64 t.kind, .int .i64 t.num, .string t.name, .slice A t.kids.length c]] w (NewRow w 9 1 (readsOf t).length ((readsOf t).map sv)) := by
  have hk := hk.full
  cases hok : termOk 6 t
  · have e : readsOf t = [] := by simp [readsOf, hok]
    rw [e]
    have HO := Lib.hid hok
    clear hok e
    go_enter Try.func124, Try.ntmps124
    go_wp2_with fail
    refine (termOk_i t A c _ (hk.below (below_alloc0 _ _)) hb hL).mono ?_
    rintro e w1 ⟨rfl, hb1⟩
    rw [HO.out]
    go_wp2_with fail
    go_ret
    exact ⟨none, 0, rfl, World.ownsRow_nil _ _ _ _, below_trans' (below_alloc0 _ _) hb1⟩
  · have e : readsOf t = readsF 6 t [] := by simp [readsOf, hok]
    rw [e]
    have HO := Lib.hid hok
    clear hok e
    go_enter Try.func124, Try.ntmps124
    go_wp2_with fail
    have b0 := box_cell w #[.int .i64 t.kind, .int .i64 t.num, .string t.name, .slice A t.kids.length c] 55 0 rfl
    have b1 := box_cell w #[.int .i64 t.kind, .int .i64 t.num, .string t.name, .slice A t.kids.length c] 55 1 rfl
    have b2 := box_cell w #[.int .i64 t.kind, .int .i64 t.num, .string t.name, .slice A t.kids.length c] 55 2 rfl
    have b3 := box_cell w #[.int .i64 t.kind, .int .i64 t.num, .string t.name, .slice A t.kids.length c] 55 3 rfl
    have hb0 := below_alloc0 w (.cells #[.int .i64 t.kind, .int .i64 t.num, .string t.name, .slice A t.kids.length c] 55)
    generalize w.alloc (.cells #[.int .i64 t.kind, .int .i64 t.num, .string t.name, .slice A t.kids.length c] 55) = W at b0 b1 b2 b3 hb0 ⊢
    refine (termOk_i t A c _ (hk.below hb0) hb hL).mono ?_
    rintro e w1 ⟨rfl, hb1⟩
    rw [HO.out]
    have c0 := cell_below hb1 b0
    have c1 := cell_below hb1 b1
    have c2 := cell_below hb1 b2
    have c3 := cell_below hb1 b3
    have hb01 := below_trans' hb0 hb1
    go_wp2_with fail
    refine (addReads_any 6 t A c none 0 [] _ ((hk.below hb01).full) hb hL HO.out (World.ownsRow_nil _ _ _ _) (Nat.le_refl _) (by simp)).mono ?_
    rintro e w2 ⟨A2, c2, rfl, ho2, hb2⟩
    go_wp2_with fail
    go_ret
    exact ⟨A2, c2, rfl, own_mono ho2 hb01.size, below_trans' hb01 hb2⟩

end Go.Proofs.Ytjnlmiekldflhaa
