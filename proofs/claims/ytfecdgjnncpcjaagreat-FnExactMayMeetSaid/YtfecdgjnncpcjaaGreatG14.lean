/- Contracts of MayMeet of the program and of the reference, of clash and of toTouch. -/
import Derived.Test.YtfecdgjnncpcjaaGreatG13
set_option linter.unusedSimpArgs false
set_option linter.unusedVariables false
namespace Go.Proofs.YtfecdgjnncpcjaaGreat
open Go.ChangeShapes Go.WideShapes Go.ChangeAt Go.RowKit

def clashB (g1 : Int) (b1 : Bool) (h1 g2 : Int) (b2 : Bool) (h2 : Int) : Bool := (g1 == g2) && ((b1 || b2) && (isSetB h1 && (isSetB h2 && (bits .and .i64 h1 h2 == 0))))
noncomputable def meetA (k : Cd) (a1 g1 : Int) (b1 : Bool) (h1 a2 g2 : Int) (b2 : Bool) (h2 : Int) : Bool := clashB g1 b1 h1 g2 b2 h2 && besideA k a1 a2
theorem toTouch_any (a1 g1 : Int) (b1 : Bool) (h1 : Int) (w : World) : Calls Tryz.prog 13 #[.agg #[.int .i64 a1, .int .i64 g1, .bool b1, .int .i64 h1]] w fun e w' => e = .returned (.agg #[.int .i64 a1, .int .i64 g1, .bool b1, .int .i64 h1]) ∧ Below w.heap.size w w' := by
  go_enter Tryz.func13, Tryz.ntmps13
  go_wp2_with fail
  have hB : Below w.heap.size w ((w.alloc (.cells #[.int .i64 a1, .int .i64 g1, .bool b1, .int .i64 h1] 28)).alloc (.cells #[.int .i64 a1, .int .i64 g1, .bool b1, .int .i64 h1] 35)) := below_trans' (below_alloc0 _ _) (below_alloc0 _ _)
  have hh : ((w.alloc (.cells #[.int .i64 a1, .int .i64 g1, .bool b1, .int .i64 h1] 28)).alloc (.cells #[.int .i64 a1, .int .i64 g1, .bool b1, .int .i64 h1] 35)).heap[w.heap.size + 1]? = some (.cells #[.int .i64 a1, .int .i64 g1, .bool b1, .int .i64 h1] 35) := by
    have := heap_alloc_new (w.alloc (.cells #[.int .i64 a1, .int .i64 g1, .bool b1, .int .i64 h1] 28)) (.cells #[.int .i64 a1, .int .i64 g1, .bool b1, .int .i64 h1] 35)
    simpa using this
  have hfin := (Below.heap_alloc ((w.alloc (.cells #[.int .i64 a1, .int .i64 g1, .bool b1, .int .i64 h1] 28)).alloc (.cells #[.int .i64 a1, .int .i64 g1, .bool b1, .int .i64 h1] 35)) (.cells #[.int .i64 a1, .int .i64 g1, .bool b1, .int .i64 h1] 35) (w.heap.size + 1) (by simp)).trans hh
  refine bodyPost_ret (results_cell_row rfl _ _ _ _ _ _ _ rfl hfin Tryz.underlying35 rfl (by kernel_rfl)) rfl ?_
  exact ⟨rfl, below_trans' hB (below_alloc0 _ _)⟩

set_option maxHeartbeats 4000000 in
theorem clash_any (a1 g1 : Int) (b1 : Bool) (h1 : Int) (a2 g2 : Int) (b2 : Bool) (h2 : Int) (w : World) : Calls Tryz.prog 46 #[.agg #[.int .i64 a1, .int .i64 g1, .bool b1, .int .i64 h1], .agg #[.int .i64 a2, .int .i64 g2, .bool b2, .int .i64 h2]] w fun e w' => e = .returned (.bool (clashB g1 b1 h1 g2 b2 h2)) ∧ Below w.heap.size w w' := by
  have HS1 := Lib.hid (fun W => isSet_any h1 W)
  have HS2 := Lib.hid (fun W => isSet_any h2 W)
  have hb0 := below_trans' (below_alloc0 w (.cells #[.int .i64 a1, .int .i64 g1, .bool b1, .int .i64 h1] 35)) (below_alloc0 (w.alloc (.cells #[.int .i64 a1, .int .i64 g1, .bool b1, .int .i64 h1] 35)) (.cells #[.int .i64 a2, .int .i64 g2, .bool b2, .int .i64 h2] 35))
  by_cases hg : g1 = g2
  · subst hg
    have eg : (g1 != g1) = false := by simp
    have eg2 : (g1 == g1) = true := by simp
    cases b1
    · cases b2
      · have HZ := Lib.hid (show clashB g1 false h1 g1 false h2 = false from by simp [clashB])
        go_enter Tryz.func46, Tryz.ntmps46
        go_wp2_with fail
        go_ret
        exact ⟨ret_bool HZ.out.symm, hb0⟩
      · cases hs1 : isSetB h1
        · have HT1 := HS1.out
          simp only [hs1] at HT1
          have HS1 := Lib.hid HT1
          clear HT1
          have HZ := Lib.hid (show clashB g1 false h1 g1 true h2 = false from by simp [clashB, hs1])
          clear hs1
          go_enter Tryz.func46, Tryz.ntmps46
          go_wp2_with fail
          refine (HS1.out _).mono ?_
          rintro e w1 ⟨rfl, rfl⟩
          go_wp2_with fail
          go_ret
          exact ⟨ret_bool HZ.out.symm, hb0⟩
        · have HT1 := HS1.out
          simp only [hs1] at HT1
          have HS1 := Lib.hid HT1
          clear HT1
          cases hs2 : isSetB h2
          · have HT2 := HS2.out
            simp only [hs2] at HT2
            have HS2 := Lib.hid HT2
            clear HT2
            have HZ := Lib.hid (show clashB g1 false h1 g1 true h2 = false from by simp [clashB, hs2])
            clear hs1 hs2
            go_enter Tryz.func46, Tryz.ntmps46
            go_wp2_with fail
            refine (HS1.out _).mono ?_
            rintro e w1 ⟨rfl, rfl⟩
            go_wp2_with fail
            refine (HS2.out _).mono ?_
            rintro e w1 ⟨rfl, rfl⟩
            go_wp2_with fail
            go_ret
            exact ⟨ret_bool HZ.out.symm, hb0⟩
          · have HT2 := HS2.out
            simp only [hs2] at HT2
            have HS2 := Lib.hid HT2
            clear HT2
            have HZ := Lib.hid (show clashB g1 false h1 g1 true h2 = (bits .and .i64 h1 h2 == 0) from by simp [clashB, hs1, hs2])
            clear hs1 hs2
            go_enter Tryz.func46, Tryz.ntmps46
            go_wp2_with fail
            refine (HS1.out _).mono ?_
            rintro e w1 ⟨rfl, rfl⟩
            go_wp2_with fail
            refine (HS2.out _).mono ?_
            rintro e w1 ⟨rfl, rfl⟩
            go_wp2_with fail
            go_ret
            exact ⟨ret_bool HZ.out.symm, hb0⟩
    · cases b2
      · cases hs1 : isSetB h1
        · have HT1 := HS1.out
          simp only [hs1] at HT1
          have HS1 := Lib.hid HT1
          clear HT1
          have HZ := Lib.hid (show clashB g1 true h1 g1 false h2 = false from by simp [clashB, hs1])
          clear hs1
          go_enter Tryz.func46, Tryz.ntmps46
          go_wp2_with fail
          refine (HS1.out _).mono ?_
          rintro e w1 ⟨rfl, rfl⟩
          go_wp2_with fail
          go_ret
          exact ⟨ret_bool HZ.out.symm, hb0⟩
        · have HT1 := HS1.out
          simp only [hs1] at HT1
          have HS1 := Lib.hid HT1
          clear HT1
          cases hs2 : isSetB h2
          · have HT2 := HS2.out
            simp only [hs2] at HT2
            have HS2 := Lib.hid HT2
            clear HT2
            have HZ := Lib.hid (show clashB g1 true h1 g1 false h2 = false from by simp [clashB, hs2])
            clear hs1 hs2
            go_enter Tryz.func46, Tryz.ntmps46
            go_wp2_with fail
            refine (HS1.out _).mono ?_
            rintro e w1 ⟨rfl, rfl⟩
            go_wp2_with fail
            refine (HS2.out _).mono ?_
            rintro e w1 ⟨rfl, rfl⟩
            go_wp2_with fail
            go_ret
            exact ⟨ret_bool HZ.out.symm, hb0⟩
          · have HT2 := HS2.out
            simp only [hs2] at HT2
            have HS2 := Lib.hid HT2
            clear HT2
            have HZ := Lib.hid (show clashB g1 true h1 g1 false h2 = (bits .and .i64 h1 h2 == 0) from by simp [clashB, hs1, hs2])
            clear hs1 hs2
            go_enter Tryz.func46, Tryz.ntmps46
            go_wp2_with fail
            refine (HS1.out _).mono ?_
            rintro e w1 ⟨rfl, rfl⟩
            go_wp2_with fail
            refine (HS2.out _).mono ?_
            rintro e w1 ⟨rfl, rfl⟩
            go_wp2_with fail
            go_ret
            exact ⟨ret_bool HZ.out.symm, hb0⟩
      · cases hs1 : isSetB h1
        · have HT1 := HS1.out
          simp only [hs1] at HT1
          have HS1 := Lib.hid HT1
          clear HT1
          have HZ := Lib.hid (show clashB g1 true h1 g1 true h2 = false from by simp [clashB, hs1])
          clear hs1
          go_enter Tryz.func46, Tryz.ntmps46
          go_wp2_with fail
          refine (HS1.out _).mono ?_
          rintro e w1 ⟨rfl, rfl⟩
          go_wp2_with fail
          go_ret
          exact ⟨ret_bool HZ.out.symm, hb0⟩
        · have HT1 := HS1.out
          simp only [hs1] at HT1
          have HS1 := Lib.hid HT1
          clear HT1
          cases hs2 : isSetB h2
          · have HT2 := HS2.out
            simp only [hs2] at HT2
            have HS2 := Lib.hid HT2
            clear HT2
            have HZ := Lib.hid (show clashB g1 true h1 g1 true h2 = false from by simp [clashB, hs2])
            clear hs1 hs2
            go_enter Tryz.func46, Tryz.ntmps46
            go_wp2_with fail
            refine (HS1.out _).mono ?_
            rintro e w1 ⟨rfl, rfl⟩
            go_wp2_with fail
            refine (HS2.out _).mono ?_
            rintro e w1 ⟨rfl, rfl⟩
            go_wp2_with fail
            go_ret
            exact ⟨ret_bool HZ.out.symm, hb0⟩
          · have HT2 := HS2.out
            simp only [hs2] at HT2
            have HS2 := Lib.hid HT2
            clear HT2
            have HZ := Lib.hid (show clashB g1 true h1 g1 true h2 = (bits .and .i64 h1 h2 == 0) from by simp [clashB, hs1, hs2])
            clear hs1 hs2
            go_enter Tryz.func46, Tryz.ntmps46
            go_wp2_with fail
            refine (HS1.out _).mono ?_
            rintro e w1 ⟨rfl, rfl⟩
            go_wp2_with fail
            refine (HS2.out _).mono ?_
            rintro e w1 ⟨rfl, rfl⟩
            go_wp2_with fail
            go_ret
            exact ⟨ret_bool HZ.out.symm, hb0⟩
  · have eg : (g1 != g2) = true := by simpa using hg
    have eg2 : (g1 == g2) = false := by simpa using hg
    have HZ := Lib.hid (show clashB g1 b1 h1 g2 b2 h2 = false from by simp [clashB, hg])
    clear hg
    go_enter Tryz.func46, Tryz.ntmps46
    go_wp2_with fail
    go_ret
    exact ⟨ret_bool HZ.out.symm, hb0⟩

set_option maxHeartbeats 8000000 in
theorem mayMeet_s {B L : Nat} (v : CV) (k : Cd) (a1 g1 : Int) (b1 : Bool) (h1 : Int) (a2 g2 : Int) (b2 : Bool) (h2 : Int) (w : World) (hk : CodeAt w B v k) (hcb : CdB L k) (hL : L ≤ 1048576) : Calls Tryz.prog 11 #[.agg #[.slice v.gA k.globals.length v.gc, .slice v.lA k.locks.length v.lc, .slice v.pA k.procs.length v.pc, .slice v.eA k.entry.length v.ec, .slice v.iA k.ins.length v.ic], .agg #[.int .i64 a1, .int .i64 g1, .bool b1, .int .i64 h1], .agg #[.int .i64 a2, .int .i64 g2, .bool b2, .int .i64 h2]] w fun e w' => e = .returned (.bool (meetA k a1 g1 b1 h1 a2 g2 b2 h2)) ∧ Below w.heap.size w w' := by
  have hkf := hk.full
  have HS1 := Lib.hid (fun W => l12Ok_any h1 W)
  have HS2 := Lib.hid (fun W => l12Ok_any h2 W)
  have hbc : CodeBox w v k (((w.alloc (.cells #[.slice v.gA k.globals.length v.gc, .slice v.lA k.locks.length v.lc, .slice v.pA k.procs.length v.pc, .slice v.eA k.entry.length v.ec, .slice v.iA k.ins.length v.ic] 33)).alloc (.cells #[.int .i64 a1, .int .i64 g1, .bool b1, .int .i64 h1] 35)).alloc (.cells #[.int .i64 a2, .int .i64 g2, .bool b2, .int .i64 h2] 35)) := ((codeBox w v k).to (below_alloc0 _ _)).to (below_alloc0 _ _)
  have hb0 := hbc.1
  obtain ⟨q1, q2, c0, c1, c2, c3, c4⟩ := id hbc
  have HBS := Lib.hid (beside_s v k a1 a2 _ (hkf.below hb0) hcb hL)
  clear hk hkf hcb
  by_cases hg : g1 = g2
  · subst hg
    have eg : (g1 != g1) = false := by simp
    have eg2 : (g1 == g1) = true := by simp
    cases b1
    · cases b2
      · have HZ := Lib.hid (show meetA k a1 g1 false h1 a2 g1 false h2 = false from by simp [meetA, clashB])
        go_enter Tryz.func11, Tryz.ntmps11
        go_wp2_with fail
        go_ret
        exact ⟨ret_bool HZ.out.symm, hb0⟩
      · cases hs1 : isSetB h1
        · have HT1 := HS1.out
          simp only [hs1] at HT1
          have HS1 := Lib.hid HT1
          clear HT1
          have HZ := Lib.hid (show meetA k a1 g1 false h1 a2 g1 true h2 = false from by simp [meetA, clashB, hs1])
          clear hs1
          go_enter Tryz.func11, Tryz.ntmps11
          go_wp2_with fail
          refine (HS1.out _).mono ?_
          rintro e w1 ⟨rfl, rfl⟩
          go_wp2_with fail
          go_ret
          exact ⟨ret_bool HZ.out.symm, hb0⟩
        · have HT1 := HS1.out
          simp only [hs1] at HT1
          have HS1 := Lib.hid HT1
          clear HT1
          cases hs2 : isSetB h2
          · have HT2 := HS2.out
            simp only [hs2] at HT2
            have HS2 := Lib.hid HT2
            clear HT2
            have HZ := Lib.hid (show meetA k a1 g1 false h1 a2 g1 true h2 = false from by simp [meetA, clashB, hs2])
            clear hs1 hs2
            go_enter Tryz.func11, Tryz.ntmps11
            go_wp2_with fail
            refine (HS1.out _).mono ?_
            rintro e w1 ⟨rfl, rfl⟩
            go_wp2_with fail
            refine (HS2.out _).mono ?_
            rintro e w1 ⟨rfl, rfl⟩
            go_wp2_with fail
            go_ret
            exact ⟨ret_bool HZ.out.symm, hb0⟩
          · have HT2 := HS2.out
            simp only [hs2] at HT2
            have HS2 := Lib.hid HT2
            clear HT2
            cases hz : (bits .and .i64 h1 h2 == 0)
            · have HZ := Lib.hid (show meetA k a1 g1 false h1 a2 g1 true h2 = false from by simp [meetA, clashB, hz])
              clear hs1 hs2
              go_enter Tryz.func11, Tryz.ntmps11
              go_wp2_with fail
              refine (HS1.out _).mono ?_
              rintro e w1 ⟨rfl, rfl⟩
              go_wp2_with fail
              refine (HS2.out _).mono ?_
              rintro e w1 ⟨rfl, rfl⟩
              go_wp2_with fail
              go_ret
              exact ⟨ret_bool HZ.out.symm, hb0⟩
            · have HZ := Lib.hid (show meetA k a1 g1 false h1 a2 g1 true h2 = besideA k a1 a2 from by simp [meetA, clashB, hs1, hs2, hz])
              clear hs1 hs2
              go_enter Tryz.func11, Tryz.ntmps11
              go_wp2_with fail
              refine (HS1.out _).mono ?_
              rintro e w1 ⟨rfl, rfl⟩
              go_wp2_with fail
              refine (HS2.out _).mono ?_
              rintro e w1 ⟨rfl, rfl⟩
              go_wp2_with fail
              refine HBS.out.mono ?_
              rintro e w2 ⟨rfl, hb2⟩
              go_wp2_with fail
              go_ret
              exact ⟨ret_bool HZ.out.symm, below_trans' hb0 hb2⟩
    · cases b2
      · cases hs1 : isSetB h1
        · have HT1 := HS1.out
          simp only [hs1] at HT1
          have HS1 := Lib.hid HT1
          clear HT1
          have HZ := Lib.hid (show meetA k a1 g1 true h1 a2 g1 false h2 = false from by simp [meetA, clashB, hs1])
          clear hs1
          go_enter Tryz.func11, Tryz.ntmps11
          go_wp2_with fail
          refine (HS1.out _).mono ?_
          rintro e w1 ⟨rfl, rfl⟩
          go_wp2_with fail
          go_ret
          exact ⟨ret_bool HZ.out.symm, hb0⟩
        · have HT1 := HS1.out
          simp only [hs1] at HT1
          have HS1 := Lib.hid HT1
          clear HT1
          cases hs2 : isSetB h2
          · have HT2 := HS2.out
            simp only [hs2] at HT2
            have HS2 := Lib.hid HT2
            clear HT2
            have HZ := Lib.hid (show meetA k a1 g1 true h1 a2 g1 false h2 = false from by simp [meetA, clashB, hs2])
            clear hs1 hs2
            go_enter Tryz.func11, Tryz.ntmps11
            go_wp2_with fail
            refine (HS1.out _).mono ?_
            rintro e w1 ⟨rfl, rfl⟩
            go_wp2_with fail
            refine (HS2.out _).mono ?_
            rintro e w1 ⟨rfl, rfl⟩
            go_wp2_with fail
            go_ret
            exact ⟨ret_bool HZ.out.symm, hb0⟩
          · have HT2 := HS2.out
            simp only [hs2] at HT2
            have HS2 := Lib.hid HT2
            clear HT2
            cases hz : (bits .and .i64 h1 h2 == 0)
            · have HZ := Lib.hid (show meetA k a1 g1 true h1 a2 g1 false h2 = false from by simp [meetA, clashB, hz])
              clear hs1 hs2
              go_enter Tryz.func11, Tryz.ntmps11
              go_wp2_with fail
              refine (HS1.out _).mono ?_
              rintro e w1 ⟨rfl, rfl⟩
              go_wp2_with fail
              refine (HS2.out _).mono ?_
              rintro e w1 ⟨rfl, rfl⟩
              go_wp2_with fail
              go_ret
              exact ⟨ret_bool HZ.out.symm, hb0⟩
            · have HZ := Lib.hid (show meetA k a1 g1 true h1 a2 g1 false h2 = besideA k a1 a2 from by simp [meetA, clashB, hs1, hs2, hz])
              clear hs1 hs2
              go_enter Tryz.func11, Tryz.ntmps11
              go_wp2_with fail
              refine (HS1.out _).mono ?_
              rintro e w1 ⟨rfl, rfl⟩
              go_wp2_with fail
              refine (HS2.out _).mono ?_
              rintro e w1 ⟨rfl, rfl⟩
              go_wp2_with fail
              refine HBS.out.mono ?_
              rintro e w2 ⟨rfl, hb2⟩
              go_wp2_with fail
              go_ret
              exact ⟨ret_bool HZ.out.symm, below_trans' hb0 hb2⟩
      · cases hs1 : isSetB h1
        · have HT1 := HS1.out
          simp only [hs1] at HT1
          have HS1 := Lib.hid HT1
          clear HT1
          have HZ := Lib.hid (show meetA k a1 g1 true h1 a2 g1 true h2 = false from by simp [meetA, clashB, hs1])
          clear hs1
          go_enter Tryz.func11, Tryz.ntmps11
          go_wp2_with fail
          refine (HS1.out _).mono ?_
          rintro e w1 ⟨rfl, rfl⟩
          go_wp2_with fail
          go_ret
          exact ⟨ret_bool HZ.out.symm, hb0⟩
        · have HT1 := HS1.out
          simp only [hs1] at HT1
          have HS1 := Lib.hid HT1
          clear HT1
          cases hs2 : isSetB h2
          · have HT2 := HS2.out
            simp only [hs2] at HT2
            have HS2 := Lib.hid HT2
            clear HT2
            have HZ := Lib.hid (show meetA k a1 g1 true h1 a2 g1 true h2 = false from by simp [meetA, clashB, hs2])
            clear hs1 hs2
            go_enter Tryz.func11, Tryz.ntmps11
            go_wp2_with fail
            refine (HS1.out _).mono ?_
            rintro e w1 ⟨rfl, rfl⟩
            go_wp2_with fail
            refine (HS2.out _).mono ?_
            rintro e w1 ⟨rfl, rfl⟩
            go_wp2_with fail
            go_ret
            exact ⟨ret_bool HZ.out.symm, hb0⟩
          · have HT2 := HS2.out
            simp only [hs2] at HT2
            have HS2 := Lib.hid HT2
            clear HT2
            cases hz : (bits .and .i64 h1 h2 == 0)
            · have HZ := Lib.hid (show meetA k a1 g1 true h1 a2 g1 true h2 = false from by simp [meetA, clashB, hz])
              clear hs1 hs2
              go_enter Tryz.func11, Tryz.ntmps11
              go_wp2_with fail
              refine (HS1.out _).mono ?_
              rintro e w1 ⟨rfl, rfl⟩
              go_wp2_with fail
              refine (HS2.out _).mono ?_
              rintro e w1 ⟨rfl, rfl⟩
              go_wp2_with fail
              go_ret
              exact ⟨ret_bool HZ.out.symm, hb0⟩
            · have HZ := Lib.hid (show meetA k a1 g1 true h1 a2 g1 true h2 = besideA k a1 a2 from by simp [meetA, clashB, hs1, hs2, hz])
              clear hs1 hs2
              go_enter Tryz.func11, Tryz.ntmps11
              go_wp2_with fail
              refine (HS1.out _).mono ?_
              rintro e w1 ⟨rfl, rfl⟩
              go_wp2_with fail
              refine (HS2.out _).mono ?_
              rintro e w1 ⟨rfl, rfl⟩
              go_wp2_with fail
              refine HBS.out.mono ?_
              rintro e w2 ⟨rfl, hb2⟩
              go_wp2_with fail
              go_ret
              exact ⟨ret_bool HZ.out.symm, below_trans' hb0 hb2⟩
  · have eg : (g1 != g2) = true := by simpa using hg
    have eg2 : (g1 == g2) = false := by simpa using hg
    have HZ := Lib.hid (show meetA k a1 g1 b1 h1 a2 g2 b2 h2 = false from by simp [meetA, clashB, hg])
    clear hg
    go_enter Tryz.func11, Tryz.ntmps11
    go_wp2_with fail
    go_ret
    exact ⟨ret_bool HZ.out.symm, hb0⟩

set_option maxHeartbeats 4000000 in
theorem mayMeet_i {B L : Nat} (v : CV) (k : Cd) (a1 g1 : Int) (b1 : Bool) (h1 : Int) (a2 g2 : Int) (b2 : Bool) (h2 : Int) (w : World) (hk : CodeAt w B v k) (hcb : CdB L k) (hL : L ≤ 1048576) : Calls Tryz.prog 14 #[.agg #[.slice v.gA k.globals.length v.gc, .slice v.lA k.locks.length v.lc, .slice v.pA k.procs.length v.pc, .slice v.eA k.entry.length v.ec, .slice v.iA k.ins.length v.ic], .agg #[.int .i64 a1, .int .i64 g1, .bool b1, .int .i64 h1], .agg #[.int .i64 a2, .int .i64 g2, .bool b2, .int .i64 h2]] w fun e w' => e = .returned (.bool (meetA k a1 g1 b1 h1 a2 g2 b2 h2)) ∧ Below w.heap.size w w' := by
  have hkf := hk.full
  have HCL := Lib.hid (fun W => clash_any a1 g1 b1 h1 a2 g2 b2 h2 W)
  have hbc : CodeBox w v k (((w.alloc (.cells #[.slice v.gA k.globals.length v.gc, .slice v.lA k.locks.length v.lc, .slice v.pA k.procs.length v.pc, .slice v.eA k.entry.length v.ec, .slice v.iA k.ins.length v.ic] 33)).alloc (.cells #[.int .i64 a1, .int .i64 g1, .bool b1, .int .i64 h1] 35)).alloc (.cells #[.int .i64 a2, .int .i64 g2, .bool b2, .int .i64 h2] 35)) := ((codeBox w v k).to (below_alloc0 _ _)).to (below_alloc0 _ _)
  have hb0 := hbc.1
  obtain ⟨q1, q2, c0, c1, c2, c3, c4⟩ := id hbc
  have HM := Lib.hid (show meetA k a1 g1 b1 h1 a2 g2 b2 h2 = (clashB g1 b1 h1 g2 b2 h2 && besideA k a1 a2) from rfl)
  have n1 := heap_alloc_new (w.alloc (.cells #[.slice v.gA k.globals.length v.gc, .slice v.lA k.locks.length v.lc, .slice v.pA k.procs.length v.pc, .slice v.eA k.entry.length v.ec, .slice v.iA k.ins.length v.ic] 33)) (.cells #[.int .i64 a1, .int .i64 g1, .bool b1, .int .i64 h1] 35)
  have n2 := heap_alloc_new ((w.alloc (.cells #[.slice v.gA k.globals.length v.gc, .slice v.lA k.locks.length v.lc, .slice v.pA k.procs.length v.pc, .slice v.eA k.entry.length v.ec, .slice v.iA k.ins.length v.ic] 33)).alloc (.cells #[.int .i64 a1, .int .i64 g1, .bool b1, .int .i64 h1] 35)) (.cells #[.int .i64 a2, .int .i64 g2, .bool b2, .int .i64 h2] 35)
  have n1' := (below_alloc0 ((w.alloc (.cells #[.slice v.gA k.globals.length v.gc, .slice v.lA k.locks.length v.lc, .slice v.pA k.procs.length v.pc, .slice v.eA k.entry.length v.ec, .slice v.iA k.ins.length v.ic] 33)).alloc (.cells #[.int .i64 a1, .int .i64 g1, .bool b1, .int .i64 h1] 35)) (.cells #[.int .i64 a2, .int .i64 g2, .bool b2, .int .i64 h2] 35)).block _ (by simp : (w.alloc (.cells #[.slice v.gA k.globals.length v.gc, .slice v.lA k.locks.length v.lc, .slice v.pA k.procs.length v.pc, .slice v.eA k.entry.length v.ec, .slice v.iA k.ins.length v.ic] 33)).heap.size < _)
  have m1 := (row_facts (n1'.trans n1)).1 0 _ rfl
  have m2 := (row_facts n2).1 0 _ rfl
  have s1 : (w.alloc (.cells #[.slice v.gA k.globals.length v.gc, .slice v.lA k.locks.length v.lc, .slice v.pA k.procs.length v.pc, .slice v.eA k.entry.length v.ec, .slice v.iA k.ins.length v.ic] 33)).heap.size = w.heap.size + 1 := by simp
  have s2 : ((w.alloc (.cells #[.slice v.gA k.globals.length v.gc, .slice v.lA k.locks.length v.lc, .slice v.pA k.procs.length v.pc, .slice v.eA k.entry.length v.ec, .slice v.iA k.ins.length v.ic] 33)).alloc (.cells #[.int .i64 a1, .int .i64 g1, .bool b1, .int .i64 h1] 35)).heap.size = w.heap.size + 1 + 1 := by simp
  rw [s1] at m1
  rw [s2] at m2
  clear n1 n2 n1' s1 s2 hk
  generalize clashB g1 b1 h1 g2 b2 h2 = cb at *
  go_enter Tryz.func14, Tryz.ntmps14
  go_wp2_with fail
  generalize ((w.alloc (.cells #[.slice v.gA k.globals.length v.gc, .slice v.lA k.locks.length v.lc, .slice v.pA k.procs.length v.pc, .slice v.eA k.entry.length v.ec, .slice v.iA k.ins.length v.ic] 33)).alloc (.cells #[.int .i64 a1, .int .i64 g1, .bool b1, .int .i64 h1] 35)).alloc (.cells #[.int .i64 a2, .int .i64 g2, .bool b2, .int .i64 h2] 35) = W at *
  refine (HCL.out _).mono ?_
  rintro e w1 ⟨rfl, hb1⟩
  have hbc1 := hbc.to hb1
  have m1' := cell_below hb1 m1
  have m2' := cell_below hb1 m2
  clear q1 q2 c0 c1 c2 c3 c4
  obtain ⟨q1, q2, c0, c1, c2, c3, c4⟩ := id hbc1
  cases cb
  · go_wp2_with fail
    go_ret
    exact ⟨ret_bool (by rw [HM.out]; rfl), hbc1.1⟩
  · go_wp2_with fail
    refine (beside_i v k a1 a2 _ (hkf.below hbc1.1) hcb hL).mono ?_
    rintro e w2 ⟨rfl, hb2⟩
    go_wp2_with fail
    go_ret
    exact ⟨ret_bool (by rw [HM.out, Bool.true_and]), below_trans' hbc1.1 hb2⟩
end Go.Proofs.YtfecdgjnncpcjaaGreat
