/- Contract of the function inside met that marks a place. -/
import Derived.Test.YtkgoajnnkimkaaaGreatE1
set_option linter.unusedSimpArgs false
set_option linter.unusedVariables false
namespace Go.Proofs.YtkgoajnnkimkaaaGreat
open Go.ChangeShapes Go.WideShapes Go.ChangeAt Go.RowKit

/-- What met keeps: the variable out in block bo, again in block ba, the marks in gm. -/
structure MK (W : World) (base bo ba gm n : Nat) (ms : List Bool) (new : Bool) : Prop where
  out : W.heap[bo]? = some (.cells #[.slice (some ⟨gm, 0, none⟩) n n] 87)
  again : W.heap[ba]? = some (.cells #[.bool new] 4)
  rm : W.ownsRow base 4 1 (.slice (some ⟨gm, 0, none⟩) n n) n (ms.map bv)
  ne : bo ≠ ba ∧ bo ≠ gm ∧ ba ≠ gm
section
variable {W W' : World} {base bo ba gm n : Nat} {ms : List Bool} {new : Bool}
theorem MK.len (h : MK W base bo ba gm n ms new) : ms.length = n := by have := own_len h.rm; simpa using this
theorem MK.below (h : MK W base bo ba gm n ms new) (hb : Below W.heap.size W W') : MK W' base bo ba gm n ms new :=
  ⟨(hb.block bo (Array.getElem?_eq_some_iff.1 h.out).1).trans h.out, (hb.block ba (Array.getElem?_eq_some_iff.1 h.again).1).trans h.again, own_below h.rm hb, h.ne⟩
theorem MK.mark (h : MK W base bo ba gm n ms new) (x : Nat) : MK (W.setCell ⟨gm, x, none⟩ (.bool true)) base bo ba gm n (ms.set x true) new := by
  obtain ⟨s1, s2⟩ := h.rm.stored x (bv true)
  rw [bv_set] at s1
  exact ⟨set_row_other h.out (a := ⟨gm, x, none⟩) h.ne.2.1 _, set_row_other h.again (a := ⟨gm, x, none⟩) h.ne.2.2 _, s1, h.ne⟩
theorem MK.say (h : MK W base bo ba gm n ms new) (b : Bool) : MK (W.setCell ⟨ba, 0, none⟩ (.bool b)) base bo ba gm n ms b :=
  ⟨set_row_other h.out (a := ⟨ba, 0, none⟩) h.ne.1 _, set_row h.again 0 (.bool b), h.rm.kept (grown_set W ⟨ba, 0, none⟩ _) (.inr fun e => by injection e with e; exact h.ne.2.2 e.symm), h.ne⟩
end
set_option maxHeartbeats 1000000 in
theorem met1_any {base : Nat} (bo ba gm n x : Nat) (ms : List Bool) (new : Bool) (w : World) (h : MK w base bo ba gm n ms new) (hx : x < n) (hn : n ≤ 1500) :
    Calls Tryz.prog 174 #[.int .i64 x, .pointer (some ⟨bo, 0, none⟩), .pointer (some ⟨ba, 0, none⟩)] w fun e w' => e = .returned (.tuple #[]) ∧ MK w' base bo ba gm n (ms.set x true) (new || !mkd ms x) ∧ Tch bo ba gm w w' := by
  have hl := h.len
  have cm := own_at h.rm (j := x) hx (u := .bool (mkd ms x)) (by rw [List.getElem?_map, List.getElem?_eq_getElem (by omega), mkd_get (by omega)]; rfl)
  have co := (row_facts h.out).1 0 _ rfl
  have ca := (row_facts h.again).1 0 _ rfl
  have fa := (row_facts h.again).2 0
  have fm := h.rm.frozenAt x
  have hm := h.mark x
  have ca2 := (row_facts hm.again).1 0 _ rfl
  have fa2 := (row_facts hm.again).2 0
  have y1 : (0 : Int) ≤ (x : Int) := by omega
  have y2 : (x : Int) < (n : Int) := by omega
  have HFN := Lib.hid (hm.say true)
  have HT := Lib.hid (((Tch.refl bo ba gm w).set (a := ⟨gm, x, none⟩) (.inr (.inr rfl)) (.bool true)).set (a := ⟨ba, 0, none⟩) (.inr (.inl rfl)) (.bool true))
  have HL := Lib.hid hl
  have HH := Lib.hid h
  clear hm hl
  cases hmk : mkd ms x
  · rw [hmk] at cm
    clear hmk h
    go_enter Tryz.func174, Tryz.ntmps174
    go_wp2_with fail
    go_end0
    refine ⟨rfl, ?_, HT.out⟩
    rw [show (new || !false) = true from by simp]
    exact HFN.out
  · rw [hmk] at cm
    have HE := Lib.hid (show ms.set x true = ms from mks_antisymm (mks_set ms x) ⟨by simp, fun b hb => by
      rw [mkd_set (by rw [HL.out]; exact hx)] at hb
      split at hb
      · rename_i e; subst e; exact hmk
      · exact hb⟩)
    clear hmk h
    go_enter Tryz.func174, Tryz.ntmps174
    go_wp2_with fail
    go_end0
    refine ⟨rfl, ?_, Tch.refl _ _ _ _⟩
    rw [HE.out, show (new || !true) = new from by simp]
    exact HH.out
end Go.Proofs.YtkgoajnnkimkaaaGreat
