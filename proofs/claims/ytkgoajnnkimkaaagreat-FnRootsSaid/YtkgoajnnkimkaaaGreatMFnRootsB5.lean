/- Effects in memory, and the law helpers over lists of them. -/
import Derived.Test.YtkgoajnnkimkaaaGreatB3
import Derived.Test.YtkgoajnnkimkaaaGreatA9
import Derived.Test.YtkgoajnnkimkaaaGreatB4
import Derived.Carry
import Derived.ChangeSame
import Derived.ChangeSlices
import Derived.Deep.Strs
import Derived.Lib.SmallJoins
set_option linter.unusedSimpArgs false
set_option linter.unusedVariables false
set_option maxRecDepth 100000
set_option maxHeartbeats 16000000
namespace Go.Proofs.YtkgoajnnkimkaaaGreat
open Go.ChangeShapes Go.WideShapes Go.ChangeAt Go.RowKit
end Go.Proofs.YtkgoajnnkimkaaaGreat
namespace Go.Proofs.YtkgoajnnkimkaaaGreat
open Go.ChangeShapes Go.WideShapes Go.ChangeAt Go.RowKit
end Go.Proofs.YtkgoajnnkimkaaaGreat
namespace Go.Proofs.YtkgoajnnkimkaaaGreat
open Go.ChangeShapes Go.WideShapes Go.ChangeAt Go.RowKit
def keepAt (es : List (Int × Int)) (a : Nat) : Nat := ((es[a]?).map fun e => e.1.toNat).getD 0
def genAt (es : List (Int × Int)) (a : Nat) : Nat := ((es[a]?).map fun e => e.2.toNat).getD 0
def movedV (op : Int) (arg : Nat) (es : List (Int × Int)) (held : Nat) : Nat :=
 if op = 6 then held ||| 2 ^ arg else if op = 7 then andNot held (2 ^ arg) else if op = 4 then (held &&& keepAt es arg) ||| genAt es arg else held
theorem l09At_any {B L : Nat} (v : CV) (k : Cd) (at_ : Int) (w : World) (hk : CodeAt w B v k) (hcb : CdB L k) (hL : L ≤ 1099511627776) :
  Calls Tryz.prog 97 #[.agg #[.slice v.gA k.globals.length v.gc, .slice v.lA k.locks.length v.lc, .slice v.pA k.procs.length v.pc, .slice v.eA k.entry.length v.ec, .slice v.iA k.ins.length v.ic], .int .i64 at_] w fun e w' => e = .returned (.bool (codeOkI k && (decide (0 ≤ at_) && decide (at_ < k.ins.length)))) ∧ Below w.heap.size w w' := by
 have hl := hcb.ins
 have hcs := codeOk_s v k (w.alloc (.cells #[.slice v.gA k.globals.length v.gc, .slice v.lA k.locks.length v.lc, .slice v.pA k.procs.length v.pc, .slice v.eA k.entry.length v.ec, .slice v.iA k.ins.length v.ic] 28)) (hk.full.below (below_alloc0 _ _)) hcb hL
 rw [← codeOk_eq] at hcs
 have HC := Lib.hid hcs
 have hbx := codeBox w v k
 clear hcs hcb
 generalize codeOkI k = ok at *
 go_enter Tryz.func97, Tryz.ntmps97
 go_wp2_with fail
 generalize w.alloc (.cells #[.slice v.gA k.globals.length v.gc, .slice v.lA k.locks.length v.lc, .slice v.pA k.procs.length v.pc, .slice v.eA k.entry.length v.ec, .slice v.iA k.ins.length v.ic] 28) = W at hbx HC ⊢
 refine HC.out.mono ?_
 rintro r w1 ⟨rfl, hb1⟩
 obtain ⟨hbw, hsz, c0, c1, c2, c3, c4⟩ := hbx.to hb1
 cases ok
 ·
  go_wp2_with fail
  go_ret
  exact ⟨rfl, hbw⟩
 ·
  go_wp2_with fail
  refine (l01In_any _ _ _ _).mono ?_
  rintro r w2 ⟨rfl, rfl⟩
  go_wp2_with fail
  go_ret
  refine ⟨ret_bool ?_, hbw⟩
  rw [Bool.eq_iff_iff]
  simp
  omega
end Go.Proofs.YtkgoajnnkimkaaaGreat
namespace Go.Proofs.YtkgoajnnkimkaaaGreat
open Go.ChangeShapes Go.WideShapes Go.ChangeAt Go.RowKit
end Go.Proofs.YtkgoajnnkimkaaaGreat
