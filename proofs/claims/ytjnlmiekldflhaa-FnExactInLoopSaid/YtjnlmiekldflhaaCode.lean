/- How terms, instructions and code lie in memory. -/
import Derived.Test.YtjnlmiekldflhaaMem
import Derived.Test.YtjnlmiekldflhaaData
set_option linter.unusedSimpArgs false
set_option linter.unusedVariables false
namespace Go.Proofs.Ytjnlmiekldflhaa
open Go.ChangeShapes Go.WideShapes Go.ChangeAt Go.RowKit

/-- From off on the cells xs lie behind A, below block B. -/
def Row (w : World) (B : Nat) (A : Option Addr) (off : Nat) (xs : List Value) : Prop :=
  ∀ j u, xs[j]? = some u → ∃ ad, A = some ad ∧ ad.block < B ∧ w.cell? (ad.add (off + j)) = some u

section
variable {w w' : World} {B B' : Nat} {A : Option Addr} {off : Nat} {xs : List Value}
theorem Row.keep (h : Row w B A off xs) (hk : ∀ p : Addr, p.block < B → w'.cell? p = w.cell? p) : Row w' B A off xs := fun j u hu => by
  obtain ⟨ad, e, hb, hc⟩ := h j u hu
  exact ⟨ad, e, hb, (hk _ (by rw [block_of_add]; exact hb)).trans hc⟩
theorem Row.mono (h : Row w B A off xs) (hB : B ≤ B') : Row w B' A off xs := fun j u hu => by
  obtain ⟨ad, e, hb, hc⟩ := h j u hu
  exact ⟨ad, e, by omega, hc⟩
theorem Row.full (h : Row w B A off xs) : Row w w.heap.size A off xs := fun j u hu => by
  obtain ⟨ad, e, hb, hc⟩ := h j u hu
  have := World.block_lt_of_cell? w _ hc
  rw [block_of_add] at this
  exact ⟨ad, e, this, hc⟩
end

/-- The four cells of a term, and what hangs on them. -/
inductive TmAt (w : World) (B : Nat) : Tm → List Value → Prop
  | mk (k n : Int) (s : ByteArray) (ks : List Tm) (A : Option Addr) (c : Nat) (cs : Nat → List Value) :
    (∀ i, i < ks.length → Row w B A (i * 4) (cs i)) → (∀ i (h : i < ks.length), TmAt w B ks[i] (cs i)) →
    TmAt w B (.mk k n s ks) [.int .i64 k, .int .i64 n, .string s, .slice A ks.length c]

/-- The terms that a slice of terms holds. -/
def KidsAt (w : World) (B : Nat) (A : Option Addr) (ks : List Tm) : Prop :=
  ∃ cs : Nat → List Value, (∀ i, i < ks.length → Row w B A (i * 4) (cs i)) ∧ ∀ i (h : i < ks.length), TmAt w B ks[i] (cs i)

/-- The instructions that a slice of them holds. -/
def InsAt (w : World) (B : Nat) (A : Option Addr) (ins : List Is) : Prop :=
  ∃ cs : Nat → List Value, ∀ i (h : i < ins.length), Row w B A (i * 7) (.int .i64 ins[i].op :: .int .i64 ins[i].arg :: (cs i ++ [.int .i64 ins[i].to])) ∧ TmAt w B ins[i].term (cs i)

/-- Where the five lists of code lie, and their capacities. -/
structure CV where
  gA : Option Addr
  lA : Option Addr
  pA : Option Addr
  eA : Option Addr
  iA : Option Addr
  gc : Nat
  lc : Nat
  pc : Nat
  ec : Nat
  ic : Nat

/-- Code in memory, below block B. -/
structure CodeAt (w : World) (B : Nat) (v : CV) (k : Cd) : Prop where
  gl : k.globals.length ≤ v.gc
  ll : k.locks.length ≤ v.lc
  pl : k.procs.length ≤ v.pc
  el : k.entry.length ≤ v.ec
  il : k.ins.length ≤ v.ic
  g : Rd w B v.gA (k.globals.map sv)
  l : Rd w B v.lA (k.locks.map sv)
  p : Rd w B v.pA (k.procs.map sv)
  e : Rd w B v.eA (k.entry.map iv)
  i : InsAt w B v.iA k.ins

section
variable {w w' : World} {B B' : Nat} {A : Option Addr} {t : Tm} {cs : List Value} {ks : List Tm} {ins : List Is} {v : CV} {k : Cd}
theorem TmAt.keep (h : TmAt w B t cs) (hk : ∀ p : Addr, p.block < B → w'.cell? p = w.cell? p) : TmAt w' B t cs := by
  induction h with
  | mk k n s ks A c cs h1 h2 ih => exact .mk k n s ks A c cs (fun i hi => (h1 i hi).keep hk) ih
theorem TmAt.mono (h : TmAt w B t cs) (hB : B ≤ B') : TmAt w B' t cs := by
  induction h with
  | mk k n s ks A c cs h1 h2 ih => exact .mk k n s ks A c cs (fun i hi => (h1 i hi).mono hB) ih
theorem TmAt.full (h : TmAt w B t cs) : TmAt w w.heap.size t cs := by
  induction h with
  | mk k n s ks A c cs h1 h2 ih => exact .mk k n s ks A c cs (fun i hi => (h1 i hi).full) ih
theorem TmAt.to (h : TmAt w B t cs) (hb : Below B w w') : TmAt w' B t cs := h.keep fun _ hp => hb.cell hp
theorem TmAt.parts (h : TmAt w B t cs) : ∃ A c, cs = [.int .i64 t.kind, .int .i64 t.num, .string t.name, .slice A t.kids.length c] ∧ KidsAt w B A t.kids := by
  cases h with
  | mk k n s ks A c cs h1 h2 => exact ⟨A, c, rfl, cs, h1, h2⟩
theorem TmAt.make {c : Nat} (h : KidsAt w B A t.kids) : TmAt w B t [.int .i64 t.kind, .int .i64 t.num, .string t.name, .slice A t.kids.length c] := by
  obtain ⟨cs, h1, h2⟩ := h
  cases t with
  | mk k n s ks => exact .mk k n s ks A c cs h1 h2
theorem KidsAt.keep (h : KidsAt w B A ks) (hk : ∀ p : Addr, p.block < B → w'.cell? p = w.cell? p) : KidsAt w' B A ks := by
  obtain ⟨cs, h1, h2⟩ := h
  exact ⟨cs, fun i hi => (h1 i hi).keep hk, fun i hi => (h2 i hi).keep hk⟩
theorem KidsAt.mono (h : KidsAt w B A ks) (hB : B ≤ B') : KidsAt w B' A ks := by
  obtain ⟨cs, h1, h2⟩ := h
  exact ⟨cs, fun i hi => (h1 i hi).mono hB, fun i hi => (h2 i hi).mono hB⟩
theorem KidsAt.full (h : KidsAt w B A ks) : KidsAt w w.heap.size A ks := by
  obtain ⟨cs, h1, h2⟩ := h
  exact ⟨cs, fun i hi => (h1 i hi).full, fun i hi => (h2 i hi).full⟩
theorem KidsAt.below (h : KidsAt w B A ks) (hb : Below B w w') : KidsAt w' B A ks := h.keep fun _ hp => hb.cell hp
theorem InsAt.keep (h : InsAt w B A ins) (hk : ∀ p : Addr, p.block < B → w'.cell? p = w.cell? p) : InsAt w' B A ins := by
  obtain ⟨cs, h1⟩ := h
  exact ⟨cs, fun i hi => ⟨(h1 i hi).1.keep hk, (h1 i hi).2.keep hk⟩⟩
theorem InsAt.mono (h : InsAt w B A ins) (hB : B ≤ B') : InsAt w B' A ins := by
  obtain ⟨cs, h1⟩ := h
  exact ⟨cs, fun i hi => ⟨(h1 i hi).1.mono hB, (h1 i hi).2.mono hB⟩⟩
theorem InsAt.full (h : InsAt w B A ins) : InsAt w w.heap.size A ins := by
  obtain ⟨cs, h1⟩ := h
  exact ⟨cs, fun i hi => ⟨(h1 i hi).1.full, (h1 i hi).2.full⟩⟩
theorem InsAt.below (h : InsAt w B A ins) (hb : Below B w w') : InsAt w' B A ins := h.keep fun _ hp => hb.cell hp
theorem CodeAt.mono (h : CodeAt w B v k) (hB : B ≤ B') : CodeAt w B' v k := ⟨h.gl, h.ll, h.pl, h.el, h.il, h.g.mono hB, h.l.mono hB, h.p.mono hB, h.e.mono hB, h.i.mono hB⟩
theorem CodeAt.full (h : CodeAt w B v k) : CodeAt w w.heap.size v k := ⟨h.gl, h.ll, h.pl, h.el, h.il, h.g.full, h.l.full, h.p.full, h.e.full, h.i.full⟩
theorem CodeAt.below (h : CodeAt w B v k) (hb : Below B w w') : CodeAt w' B v k := ⟨h.gl, h.ll, h.pl, h.el, h.il, h.g.below hb, h.l.below hb, h.p.below hb, h.e.below hb, h.i.below hb⟩
end

theorem add_pos_eq (a : Addr) (m j : Nat) (hj : 0 < j) : a.add (m + j) = ⟨(a.add m).block, (a.add m).off + j, none⟩ := by
  rw [← add_of_add]
  generalize a.add m = x
  unfold Addr.add
  rw [if_neg (by omega)]

section
variable {w : World} {B : Nat} {A : Option Addr} {ks : List Tm} {ins : List Is}
/-- The cells of one kid. -/
theorem KidsAt.get (h : KidsAt w B A ks) {i : Nat} (hi : i < ks.length) : ∃ ad A' c', A = some ad ∧ (ad.add (i * 4)).block < B ∧
    w.cell? (ad.add (i * 4)) = some (.int .i64 ks[i].kind) ∧ w.cell? ⟨(ad.add (i * 4)).block, (ad.add (i * 4)).off + 1, none⟩ = some (.int .i64 ks[i].num) ∧
    w.cell? ⟨(ad.add (i * 4)).block, (ad.add (i * 4)).off + 2, none⟩ = some (.string ks[i].name) ∧ w.cell? ⟨(ad.add (i * 4)).block, (ad.add (i * 4)).off + 3, none⟩ = some (.slice A' ks[i].kids.length c') ∧
    KidsAt w B A' ks[i].kids := by
  obtain ⟨cs, h1, h2⟩ := h
  obtain ⟨A', c', e, hk⟩ := (h2 i hi).parts
  have hr := h1 i hi
  rw [e] at hr
  obtain ⟨ad, rfl, hb, c0⟩ := hr 0 _ rfl
  refine ⟨ad, A', c', rfl, by rw [block_of_add]; exact hb, c0, ?_, ?_, ?_, hk⟩
  · obtain ⟨ad', e', _, c1⟩ := hr 1 _ rfl
    cases e'
    rwa [add_pos_eq _ _ 1 (by omega)] at c1
  · obtain ⟨ad', e', _, c1⟩ := hr 2 _ rfl
    cases e'
    rwa [add_pos_eq _ _ 2 (by omega)] at c1
  · obtain ⟨ad', e', _, c1⟩ := hr 3 _ rfl
    cases e'
    rwa [add_pos_eq _ _ 3 (by omega)] at c1
/-- The cells of one instruction. -/
theorem InsAt.get (h : InsAt w B A ins) {i : Nat} (hi : i < ins.length) : ∃ ad A' c', A = some ad ∧ (ad.add (i * 7)).block < B ∧
    w.cell? (ad.add (i * 7)) = some (.int .i64 ins[i].op) ∧ w.cell? ⟨(ad.add (i * 7)).block, (ad.add (i * 7)).off + 1, none⟩ = some (.int .i64 ins[i].arg) ∧
    w.cell? ⟨(ad.add (i * 7)).block, (ad.add (i * 7)).off + 2, none⟩ = some (.int .i64 ins[i].term.kind) ∧ w.cell? ⟨(ad.add (i * 7)).block, (ad.add (i * 7)).off + 3, none⟩ = some (.int .i64 ins[i].term.num) ∧
    w.cell? ⟨(ad.add (i * 7)).block, (ad.add (i * 7)).off + 4, none⟩ = some (.string ins[i].term.name) ∧ w.cell? ⟨(ad.add (i * 7)).block, (ad.add (i * 7)).off + 5, none⟩ = some (.slice A' ins[i].term.kids.length c') ∧
    w.cell? ⟨(ad.add (i * 7)).block, (ad.add (i * 7)).off + 6, none⟩ = some (.int .i64 ins[i].to) ∧ KidsAt w B A' ins[i].term.kids := by
  obtain ⟨cs, h1⟩ := h
  obtain ⟨hr, ht⟩ := h1 i hi
  obtain ⟨A', c', e, hk⟩ := ht.parts
  rw [e] at hr
  obtain ⟨ad, rfl, hb, c0⟩ := hr 0 _ rfl
  have get : ∀ j u, 0 < j → ([.int .i64 ins[i].op, .int .i64 ins[i].arg, .int .i64 ins[i].term.kind, .int .i64 ins[i].term.num, .string ins[i].term.name, .slice A' ins[i].term.kids.length c', .int .i64 ins[i].to] : List Value)[j]? = some u →
      w.cell? ⟨(ad.add (i * 7)).block, (ad.add (i * 7)).off + j, none⟩ = some u := by
    intro j u hj hu
    obtain ⟨ad', e', _, c1⟩ := hr j u hu
    cases e'
    rwa [add_pos_eq _ _ j hj] at c1
  exact ⟨ad, A', c', rfl, by rw [block_of_add]; exact hb, c0, get 1 _ (by omega) rfl, get 2 _ (by omega) rfl, get 3 _ (by omega) rfl, get 4 _ (by omega) rfl, get 5 _ (by omega) rfl, get 6 _ (by omega) rfl, hk⟩
end
end Go.Proofs.Ytjnlmiekldflhaa
