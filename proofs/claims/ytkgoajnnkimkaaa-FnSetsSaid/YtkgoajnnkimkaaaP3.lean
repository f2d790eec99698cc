/- What a law over drawn code is handed, read as bytes; the law's question whether it is too much. -/
import Derived.Test.YtkgoajnnkimkaaaH4
import Derived.Carry
import Derived.ChangeSame
import Derived.ChangeSlices
import Derived.Deep.Strs
import Derived.Lib.SmallJoins
set_option linter.unusedSimpArgs false
set_option linter.unusedVariables false
set_option maxRecDepth 100000
set_option maxHeartbeats 16000000
namespace Go.Proofs.Ytkgoajnnkimkaaa
open Go.ChangeShapes Go.WideShapes Go.ChangeAt Go.RowKit
theorem cells_byte : Try.prog.cellsOf 5 = 1:=by kernel_rfl
theorem u8_of_wf {n : Int} (h : (Lit.int .u8 n).wf = true) : 0 ≤ n ∧ n ≤ 255:=by
 simp [Lit.wf,IntKind.min,IntKind.max,IntKind.bits,IntKind.signed] at h;omega
section
variable {H : Type} {enc : TypeId × Value → H} {W : World} {sp : Nat → Bool} {held : Bool}
theorem rd_bytes {fuel : Nat} {cs : List Value} {x : DataW H × List MemPlace} (h : DataW.trod enc Try.prog W 0 sp held fuel 33 cs = some x) :
  ∃ (A : Option Addr) (c : Nat) (b : List UInt8),cs = [.slice A b.length c] ∧ Rd W W.heap.size A (bytesV b) ∧ b.length ≤ 9223372036854775807:=by
 rcases open_ints Try.underlying33 Try.underlying5 cells_byte h with ⟨rfl,rfl⟩ | ⟨a,len,cap,zs,rfl,_,hlc,hcm,hzl,rfl,hcell,hwf⟩
 · exact ⟨none,0,[],rfl,Rd.nil,by simp⟩
 ·
  have hle : len ≤ zs.length:=by rw [hzl];split <;> omega
  unfold maxLen at hcm;refine ⟨some a,cap,(zs.take len).map fun n=>UInt8.ofNat n.toNat,by simp [Nat.min_eq_left hle],?_,by simp;omega⟩;intro j u hu;simp only [bytesV,List.getElem?_map,List.getElem?_take] at hu;by_cases hj : j < len
  ·
   rw [if_pos hj,List.getElem?_eq_getElem (by omega)] at hu;simp only [Option.map_some,Option.some.injEq] at hu;subst hu;have hc:=hcell j (by omega);rw [List.getD_eq_getElem?_getD,List.getElem?_eq_getElem (by omega)] at hc;have hb:=World.block_lt_of_cell? W _ hc;rw [block_of_add] at hb;have hw:=u8_of_wf (hwf zs[j] (List.getElem_mem (by omega)));refine ⟨a,rfl,hb,?_⟩;rw [hc];simp only [Option.getD_some];congr 2
   rw [UInt8.toNat_ofNat'];omega
  · rw [if_neg hj] at hu;simp at hu
end
theorem big_any {b : List UInt8} (A : Option Addr) (c : Nat) (w : World) (hn : b.length ≤ 9223372036854775807) :
  Calls Try.prog 14 #[.slice A b.length c] w fun e w'=>e = .returned (.bool (decide (1048576 < b.length))) ∧ w' = w:=by
 go_enter Try.func14, Try.ntmps14
 go_wp2_with fail
 go_ret
 exact ⟨ret_bool (decide_eq_decide.2 (by omega)),rfl⟩
end Go.Proofs.Ytkgoajnnkimkaaa
