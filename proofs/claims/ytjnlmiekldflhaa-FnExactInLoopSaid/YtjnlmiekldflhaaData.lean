/- Terms, instructions and code as data. No program is named. -/
set_option linter.unusedSimpArgs false
set_option linter.unusedVariables false
namespace Go.Proofs.Ytjnlmiekldflhaa

/-- A term. -/
inductive Tm where
  | mk (kind num : Int) (name : ByteArray) (kids : List Tm)

def Tm.kind : Tm → Int | .mk k _ _ _ => k
def Tm.num : Tm → Int | .mk _ n _ _ => n
def Tm.name : Tm → ByteArray | .mk _ _ s _ => s
def Tm.kids : Tm → List Tm | .mk _ _ _ ks => ks

/-- An instruction. -/
structure Is where
  op : Int
  arg : Int
  term : Tm
  to : Int

/-- Code. -/
structure Cd where
  globals : List ByteArray
  locks : List ByteArray
  procs : List ByteArray
  entry : List Int
  ins : List Is

/-- It fits an int64. -/
def Fits (n : Int) : Prop := -9223372036854775808 ≤ n ∧ n ≤ 9223372036854775807

/-- All numbers of a term fit; no text and no list in it is longer than L. -/
inductive TmB (L : Nat) : Tm → Prop
  | mk (k n : Int) (s : ByteArray) (ks : List Tm) : Fits k → Fits n → s.size ≤ L → ks.length ≤ L → (∀ i (h : i < ks.length), TmB L ks[i]) → TmB L (.mk k n s ks)

theorem TmB.mono {L M : Nat} (h : L ≤ M) {t : Tm} (b : TmB L t) : TmB M t := by
  induction b with
  | mk k n s ks h1 h2 h3 h4 h5 ih => exact .mk k n s ks h1 h2 (by omega) (by omega) ih
theorem TmB.fits {L : Nat} {t : Tm} (b : TmB L t) : Fits t.kind ∧ Fits t.num ∧ t.name.size ≤ L ∧ t.kids.length ≤ L := by
  cases b with
  | mk k n s ks h1 h2 h3 h4 h5 => exact ⟨h1, h2, h3, h4⟩
theorem TmB.kid {L : Nat} {t : Tm} (b : TmB L t) (i : Nat) (h : i < t.kids.length) : TmB L t.kids[i] := by
  cases b with
  | mk k n s ks h1 h2 h3 h4 h5 => exact h5 i h

/-- The same of an instruction. -/
structure IsB (L : Nat) (x : Is) : Prop where
  op : Fits x.op
  arg : Fits x.arg
  term : TmB L x.term
  to : Fits x.to
theorem IsB.mono {L M : Nat} (h : L ≤ M) {x : Is} (b : IsB L x) : IsB M x := ⟨b.op, b.arg, b.term.mono h, b.to⟩

/-- The same of code. -/
structure CdB (L : Nat) (k : Cd) : Prop where
  globals : k.globals.length ≤ L
  locks : k.locks.length ≤ L
  procs : k.procs.length ≤ L
  entry : k.entry.length ≤ L
  ins : k.ins.length ≤ L
  globalsS : ∀ s ∈ k.globals, s.size ≤ L
  locksS : ∀ s ∈ k.locks, s.size ≤ L
  procsS : ∀ s ∈ k.procs, s.size ≤ L
  entryF : ∀ n ∈ k.entry, Fits n
  insB : ∀ x ∈ k.ins, IsB L x

theorem sizeOf_kid {t : Tm} (i : Nat) (h : i < t.kids.length) : sizeOf t.kids[i] < sizeOf t := by
  cases t with
  | mk k n s ks =>
    have := List.sizeOf_lt_of_mem (List.getElem_mem h)
    simp only [Tm.kids] at this ⊢
    simp
    omega
theorem Tm.eta (t : Tm) : t = .mk t.kind t.num t.name t.kids := by cases t; rfl
end Go.Proofs.Ytjnlmiekldflhaa
