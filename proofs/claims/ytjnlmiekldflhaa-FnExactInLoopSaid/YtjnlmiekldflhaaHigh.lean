/- Memory above a block, and what it says of rows there. -/
import Derived.Test.YtjnlmiekldflhaaCode
set_option linter.unusedSimpArgs false
set_option linter.unusedVariables false
namespace Go.Proofs.Ytjnlmiekldflhaa
open Go.ChangeShapes Go.WideShapes Go.ChangeAt Go.RowKit

/-- The world with all that lies below block lo, or is frozen, taken out. -/
def High (w : World) (lo : Nat) : World :=
  { w with heap := w.heap.mapIdx fun b o => if b < lo then .cells #[] 0 (0, 0) else match o with | .cells c t (0, 0) => .cells c t (0, 0) | _ => .cells #[] 0 (0, 0) }
theorem high_size (w : World) (lo : Nat) : (High w lo).heap.size = w.heap.size := by simp [High]
theorem high_some {w : World} {lo : Nat} {a : Addr} {v : Value} : (High w lo).cell? a = some v ↔ lo ≤ a.block ∧ w.cell? a = some v ∧ ∃ c t, w.heap[a.block]? = some (.cells c t (0, 0)) := by
  unfold World.cell? High
  simp only [Array.getElem?_mapIdx]
  cases h : w.heap[a.block]? with
  | none => simp
  | some o =>
    by_cases hb : a.block < lo
    · simp only [Option.map_some, hb, if_true]
      constructor
      · intro h1
        split at h1 <;> simp at h1
      · intro h1; omega
    · simp only [Option.map_some, hb, if_false]
      have hl : lo ≤ a.block := by omega
      cases o with
      | cells c t fz =>
        obtain ⟨f1, f2⟩ := fz
        by_cases hz : (f1, f2) = (0, 0)
        · cases hz
          simp [hl]
        · have hz' : ¬ (f1 = 0 ∧ f2 = 0) := fun h => hz (by rw [h.1, h.2])
          constructor
          · intro h1
            split at h1
            · rename_i c' t' fz' hh
              split at hh
              · rename_i c2 t2 hh2
                simp at hh2
                exact absurd hh2.2.2 hz'
              · simp at hh
                obtain ⟨rfl, _⟩ := hh
                split at h1 <;> simp at h1
            · simp at h1
          · rintro ⟨_, _, c2, t2, hh⟩
            simp at hh
            exact absurd hh.2.2 hz'
      | _ => 
        constructor
        · intro h1
          simp at h1
        · rintro ⟨_, _, c2, t2, hh⟩
          simp at hh
theorem high_cell {w : World} {lo : Nat} {a : Addr} {v : Value} (h : (High w lo).cell? a = some v) : w.cell? a = some v := (high_some.1 h).2.1
theorem high_le {w : World} {lo : Nat} {a : Addr} {v : Value} (h : (High w lo).cell? a = some v) : lo ≤ a.block := (high_some.1 h).1
theorem high_free {w : World} {lo : Nat} {a : Addr} {v : Value} (h : (High w lo).cell? a = some v) (j : Nat) : w.frozen? ⟨a.block, j, none⟩ = false := by
  obtain ⟨c, t, e⟩ := (high_some.1 h).2.2
  simp [World.frozen?, e]
/-- What lies high is as it was where the blocks are. -/
theorem high_keep {w w' : World} {lo lo' : Nat} (hl : lo' ≤ lo) (hk : ∀ b, lo ≤ b → b < w.heap.size → w'.heap[b]? = w.heap[b]?) {a : Addr} {v : Value} (h : (High w lo).cell? a = some v) : (High w' lo').cell? a = some v := by
  obtain ⟨h1, h2, c, t, h3⟩ := high_some.1 h
  have e := hk a.block h1 (Array.getElem?_eq_some_iff.1 h3).1
  refine high_some.2 ⟨by omega, ?_, c, t, e.trans h3⟩
  rw [← h2]
  exact World.cell?_of_block (w := w) e

section
variable {w w' : World} {B B' : Nat} {A : Option Addr} {t : Tm} {cs : List Value} {ks : List Tm} {ins : List Is} {v : CV} {k : Cd} {off : Nat} {xs : List Value}
theorem Rd.sub (h : Rd w B A xs) (hB : B ≤ B') (hk : ∀ p u, w.cell? p = some u → w'.cell? p = some u) : Rd w' B' A xs := fun j u hu => by
  obtain ⟨ad, e, hb, hc⟩ := h j u hu
  exact ⟨ad, e, by omega, hk _ _ hc⟩
theorem Row.sub (h : Row w B A off xs) (hB : B ≤ B') (hk : ∀ p u, w.cell? p = some u → w'.cell? p = some u) : Row w' B' A off xs := fun j u hu => by
  obtain ⟨ad, e, hb, hc⟩ := h j u hu
  exact ⟨ad, e, by omega, hk _ _ hc⟩
theorem TmAt.sub (h : TmAt w B t cs) (hB : B ≤ B') (hk : ∀ p u, w.cell? p = some u → w'.cell? p = some u) : TmAt w' B' t cs := by
  induction h with
  | mk k n s ks A c cs h1 h2 ih => exact .mk k n s ks A c cs (fun i hi => (h1 i hi).sub hB hk) ih
theorem KidsAt.sub (h : KidsAt w B A ks) (hB : B ≤ B') (hk : ∀ p u, w.cell? p = some u → w'.cell? p = some u) : KidsAt w' B' A ks := by
  obtain ⟨cs, h1, h2⟩ := h
  exact ⟨cs, fun i hi => (h1 i hi).sub hB hk, fun i hi => (h2 i hi).sub hB hk⟩
theorem InsAt.sub (h : InsAt w B A ins) (hB : B ≤ B') (hk : ∀ p u, w.cell? p = some u → w'.cell? p = some u) : InsAt w' B' A ins := by
  obtain ⟨cs, h1⟩ := h
  exact ⟨cs, fun i hi => ⟨(h1 i hi).1.sub hB hk, (h1 i hi).2.sub hB hk⟩⟩
theorem CodeAt.sub (h : CodeAt w B v k) (hB : B ≤ B') (hk : ∀ p u, w.cell? p = some u → w'.cell? p = some u) : CodeAt w' B' v k :=
  ⟨h.gl, h.ll, h.pl, h.el, h.il, h.g.sub hB hk, h.l.sub hB hk, h.p.sub hB hk, h.e.sub hB hk, h.i.sub hB hk⟩
end
section
variable {w w' : World} {lo lo' : Nat}
theorem high_below (hl : lo' ≤ lo) (hb : Below w.heap.size w w') : ∀ p u, (High w lo).cell? p = some u → (High w' lo').cell? p = some u := fun p u h => high_keep hl (fun b _ hb' => hb.block b hb') h
theorem high_set (hl : lo' ≤ lo) {a : Addr} (ha : a.block < lo) (x : Value) : ∀ p u, (High w lo).cell? p = some u → (High (w.setCell a x) lo').cell? p = some u :=
  fun p u h => high_keep hl (fun b hb _ => Below.heap_setCell w a x b (by omega)) h
theorem high_low : ∀ p u, (High w lo).cell? p = some u → w.cell? p = some u := fun p u h => high_cell h
theorem high_mono (hl : lo' ≤ lo) : ∀ p u, (High w lo).cell? p = some u → (High w lo').cell? p = some u := fun p u h => high_keep hl (fun _ _ _ => rfl) h
/-- A row of one's own lies high. -/
theorem own_high {base : Nat} {t : TypeId} {size n : Nat} {A : Option Addr} {c : Nat} {xs : List Value} (h : w.ownsRow base t size (.slice A n c) n xs) : Rd (High w base) w.heap.size A xs := by
  have hr := own_rd h
  intro j u hu
  obtain ⟨ad, e, hb, hc⟩ := hr j u hu
  refine ⟨ad, e, hb, high_some.2 ?_⟩
  rw [block_of_add]
  subst e
  rcases h.2 with ⟨e, h0⟩ | ⟨g, cap, cur, e, hg, hh, _⟩
  · simp at e
  · injection e with e1 e2 e3
    injection e1 with e1
    subst e1
    exact ⟨hg, hc, _, _, hh⟩
end

/-- Values put one behind the other. -/
def putL (ys : List Value) (i : Nat) : List Value → List Value
  | [] => ys
  | v :: r => putL (ys.set i v) (i + 1) r
theorem putL_len (vs : List Value) : ∀ (ys : List Value) (i : Nat), (putL ys i vs).length = ys.length := by
  induction vs with
  | nil => intro ys i; rfl
  | cons v r ih => intro ys i; rw [putL, ih]; simp
theorem putL_get (vs : List Value) : ∀ (ys : List Value) (i m : Nat), i + vs.length ≤ ys.length → (putL ys i vs)[m]? = if i ≤ m ∧ m < i + vs.length then vs[m - i]? else ys[m]? := by
  induction vs with
  | nil => intro ys i m h; rw [putL, if_neg (by simp only [List.length_nil]; omega)]
  | cons v r ih =>
    intro ys i m h
    simp only [List.length_cons] at h
    rw [putL, ih _ _ _ (by simp; omega)]
    simp only [List.length_cons]
    by_cases h1 : i + 1 ≤ m ∧ m < i + 1 + r.length
    · rw [if_pos h1, if_pos (by omega)]
      have e : m - i = (m - (i + 1)) + 1 := by omega
      rw [e, List.getElem?_cons_succ]
    · rw [if_neg h1]
      by_cases h2 : m = i
      · subst h2
        rw [if_pos (by omega), List.getElem?_set_self (by omega)]
        simp
      · rw [if_neg (by omega), List.getElem?_set_ne (by omega)]
/-- The same in memory. -/
def setL (w : World) (g : Nat) (i : Nat) : List Value → World
  | [] => w
  | v :: r => setL (w.setCell ⟨g, i, none⟩ v) g (i + 1) r
theorem setL_own {base : Nat} {t : TypeId} {size n cap g : Nat} (vs : List Value) : ∀ (w : World) (ys : List Value) (i : Nat), w.ownsRow base t size (.slice (some ⟨g, 0, none⟩) n cap) n ys →
    (setL w g i vs).ownsRow base t size (.slice (some ⟨g, 0, none⟩) n cap) n (putL ys i vs) ∧ w.grownBy (setL w g i vs) (some g) := by
  induction vs with
  | nil => intro w ys i h; exact ⟨h, World.grownBy.refl _ _⟩
  | cons v r ih =>
    intro w ys i h
    obtain ⟨h1, h2⟩ := h.stored i v
    obtain ⟨h3, h4⟩ := ih _ _ (i + 1) h1
    exact ⟨h3, h2.trans h4⟩
theorem high_grown {w w' : World} {g lo lo' : Nat} (hl : lo' ≤ lo) (hg : w.grownBy w' (some g)) (h : g < lo) : ∀ p u, (High w lo).cell? p = some u → (High w' lo').cell? p = some u :=
  fun p u hp => high_keep hl (fun b hb hb' => hg.block b hb' (by simp; omega)) hp
/-- The first k elements of a row, s cells each. -/
def RowsAt (ys : List Value) (s : Nat) (cs : Nat → List Value) (k : Nat) : Prop := ∀ i, i < k → (cs i).length = s ∧ ∀ j u, (cs i)[j]? = some u → ys[i * s + j]? = some u
theorem RowsAt.zero (ys : List Value) (s : Nat) (cs : Nat → List Value) : RowsAt ys s cs 0 := fun i h => by omega
theorem RowsAt.put {ys : List Value} {s : Nat} {cs : Nat → List Value} {k n : Nat} (h : RowsAt ys s cs k) (vs : List Value) (hv : vs.length = s) (hl : ys.length = n * s) (hk : k < n) : RowsAt (putL ys (k * s) vs) s (fun i => if i = k then vs else cs i) (k + 1) := by
  have hle : (k + 1) * s ≤ n * s := Nat.mul_le_mul_right _ hk
  have hks : (k + 1) * s = k * s + s := by rw [Nat.add_mul, Nat.one_mul]
  intro i hi
  by_cases e : i = k
  · subst e
    simp only [if_true]
    refine ⟨hv, fun j u hj => ?_⟩
    have hjs : j < s := by rw [← hv]; exact (List.getElem?_eq_some_iff.1 hj).1
    rw [putL_get _ _ _ _ (by omega), if_pos (by omega)]
    have e : i * s + j - i * s = j := by omega
    rw [e]
    exact hj
  · simp only [e, if_false]
    obtain ⟨h1, h2⟩ := h i (by omega)
    refine ⟨h1, fun j u hj => ?_⟩
    have hjs : j < s := by rw [← h1]; exact (List.getElem?_eq_some_iff.1 hj).1
    have hle2 : (i + 1) * s ≤ k * s := Nat.mul_le_mul_right _ (by omega)
    have hks2 : (i + 1) * s = i * s + s := by rw [Nat.add_mul, Nat.one_mul]
    rw [putL_get _ _ _ _ (by omega), if_neg (by omega)]
    exact h2 j u hj
theorem RowsAt.row {w : World} {B s k : Nat} {A : Option Addr} {ys : List Value} {cs : Nat → List Value} (h : RowsAt ys s cs k) (hr : Rd w B A ys) {i : Nat} (hi : i < k) : Row w B A (i * s) (cs i) :=
  fun j u hj => hr _ _ ((h i hi).2 j u hj)
end Go.Proofs.Ytjnlmiekldflhaa
