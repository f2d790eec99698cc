/- Contract of findRoots. -/
import Derived.Test.YtjnlmiekldflhaaFind
set_option linter.unusedSimpArgs false
set_option linter.unusedVariables false
namespace Go.Proofs.Ytjnlmiekldflhaa
open Go.ChangeShapes Go.WideShapes Go.ChangeAt Go.RowKit

theorem union_tab {k : Cd} {f : Nat → Nat} {s q : Nat} (hn : k.procs.length ≤ 62) : (unionN (tabL k f) (bitsTo s 62)).testBit q = true ↔ ∃ r, r < k.procs.length ∧ s.testBit r = true ∧ (f r).testBit q = true := by
  rw [testBit_unionN]
  constructor
  · rintro ⟨r, h1, h2⟩
    rcases Nat.lt_or_ge r k.procs.length with h | h
    · rw [tabL_get h] at h2
      exact ⟨r, h, (mem_bitsTo.1 h1).2, h2⟩
    · rw [List.getElem?_eq_none (by rw [tabL_len]; exact h)] at h2
      simp at h2
  · rintro ⟨r, h, h1, h2⟩
    refine ⟨r, mem_bitsTo.2 ⟨by omega, h1⟩, ?_⟩
    rw [tabL_get h]
    exact h2
/-- All that is called from the roots in s. -/
noncomputable def usedN (k : Cd) (s : Nat) : Nat := unionN (tabL k (fromT k)) (bitsTo s 62)
/-- The roots in s, and all that are started there. -/
noncomputable def moreN (k : Cd) (s : Nat) : Nat := s ||| unionN (tabL k (opsT k 5)) (bitsTo (usedN k s) 62)
theorem usedN_lt (k : Cd) (s : Nat) : usedN k s < 2 ^ k.procs.length := union_lt (fromT k) (fun q => setN_lt _ _) _
theorem used_bit {k : Cd} (hr : Right k) {s q : Nat} : (usedN k s).testBit q = true ↔ ∃ r, r < k.procs.length ∧ s.testBit r = true ∧ FromP k r q ∧ q < k.procs.length := by
  have := hr.procs
  unfold usedN
  rw [union_tab (by omega)]
  constructor
  · rintro ⟨r, h1, h2, h3⟩
    have := testBit_setN_true.1 h3
    exact ⟨r, h1, h2, this.2, this.1⟩
  · rintro ⟨r, h1, h2, h3, h4⟩
    exact ⟨r, h1, h2, testBit_setN_true.2 ⟨h4, h3⟩⟩
theorem more_bit {k : Cd} (hr : Right k) {s q : Nat} : (moreN k s).testBit q = true ↔ s.testBit q = true ∨ ∃ r, r < k.procs.length ∧ s.testBit r = true ∧ q ∈ startL k r := by
  have hp := hr.procs
  unfold moreN
  rw [Nat.testBit_or, Bool.or_eq_true, union_tab (by omega)]
  constructor
  · rintro (h | ⟨x, h1, h2, h3⟩)
    · exact .inl h
    · obtain ⟨r, g1, g2, g3, _⟩ := (used_bit hr).1 h2
      have h4 := testBit_setN_true.1 h3
      exact .inr ⟨r, g1, g2, mem_listN.2 ⟨h4.1, x, g3, h4.2⟩⟩
  · rintro (h | ⟨r, h1, h2, h3⟩)
    · exact .inl h
    · obtain ⟨h4, x, h5, h6⟩ := mem_listN.1 h3
      have hx := from_lt h1 h5
      exact .inr ⟨x, hx, (used_bit hr).2 ⟨r, h1, h2, h5, hx⟩, testBit_setN_true.2 ⟨h4, h6⟩⟩
theorem root_step {k : Cd} (hr : Right k) {s : Nat} (h : ∀ q, s.testBit q = true → RootP k q) : ∀ q, (moreN k s).testBit q = true → RootP k q := by
  intro q hq
  rcases (more_bit hr).1 hq with h1 | ⟨r, h1, h2, h3⟩
  · exact h q h1
  · exact (h r h2).step h3
theorem root_fix {k : Cd} (hr : Right k) {s : Nat} (h0 : s.testBit (mainN k) = true) (hs : s < 2 ^ k.procs.length) (h : ∀ q, s.testBit q = true → RootP k q) (hc : moreN k s = s) : s = setN k.procs.length (RootP k) ∧ usedN k s = setN k.procs.length (UsedP k) := by
  have hin : ∀ q, RootP k q → s.testBit q = true := fun q hq => hq.inv (P := fun q => s.testBit q = true) h0 fun x hx y hy => by
    rw [← hc, more_bit hr]
    exact .inr ⟨x, lt_of_testBit hs hx, hx, hy⟩
  refine ⟨eq_setN hs fun q _ => ⟨h q, hin q⟩, eq_setN (usedN_lt k s) fun q hq => ?_⟩
  rw [used_bit hr]
  constructor
  · rintro ⟨r, _, h1, h2, _⟩
    exact ⟨r, h r h1, h2⟩
  · rintro ⟨r, h1, h2⟩
    exact ⟨r, root_lt hr h1, hin r h1, h2, hq⟩
section
variable {w wr w1 : World} {g : Nat} {v : CV} {k : Cd} {x5 x9 x10 : Value} {a b c n : Nat} {ca sp fr : List Nat}
theorem FC.setU (h : FC w g v k x5 x9 x10 a b c n ca sp fr wr) (x : Value) : FC w g v k x5 x9 x a b c n ca sp fr (wr.setCell ⟨g, 10, none⟩ x) := by
  have hn := h.ne
  have s2 := grown_set wr ⟨g, 10, none⟩ x
  refine ⟨h.ab, h.ac, h.bc, h.rca.kept s2 (.inr ?_), h.rsp.kept s2 (.inr ?_), h.rfr.kept s2 (.inr ?_), h.blk.set10 x, h.grown.trans s2, h.g_lt⟩
  all_goals simp [Value.ownBlock]
  all_goals omega
theorem FC.setR (h : FC w g v k x5 x9 x10 a b c n ca sp fr wr) (x : Value) : FC w g v k x5 x x10 a b c n ca sp fr (wr.setCell ⟨g, 9, none⟩ x) := by
  have hn := h.ne
  have s2 := grown_set wr ⟨g, 9, none⟩ x
  refine ⟨h.ab, h.ac, h.bc, h.rca.kept s2 (.inr ?_), h.rsp.kept s2 (.inr ?_), h.rfr.kept s2 (.inr ?_), h.blk.set9 x, h.grown.trans s2, h.g_lt⟩
  all_goals simp [Value.ownBlock]
  all_goals omega
end
/-- The set of the roots, and of what is used. -/
noncomputable def rootsN (k : Cd) : Nat := setN k.procs.length (RootP k)
noncomputable def usedS (k : Cd) : Nat := setN k.procs.length (UsedP k)

set_option maxRecDepth 100000 in
set_option maxHeartbeats 2000000 in
theorem findRoots_any {B : Nat} (g : Nat) (v : CV) (k : Cd) (x5 x9 x10 : Value) (a b c : Nat) (w0 w : World) (hr : Right k) (hk : CodeAt w0 B v k) (hB : B ≤ g)
    (hF : FC w0 g v k x5 x9 x10 a b c k.procs.length (tabL k (opsT k 4)) (tabL k (opsT k 5)) (tabL k (fromT k)) w) :
    Calls Try.prog 114 #[.pointer (some ⟨g, 0, none⟩)] w fun e w' => e = .returned (.tuple #[]) ∧ FC w0 g v k x5 (.int .i64 (rootsN k : Nat)) (.int .i64 (usedS k : Nat)) a b c k.procs.length (tabL k (opsT k 4)) (tabL k (opsT k 5)) (tabL k (fromT k)) w' := by
  have hpl := hr.procs
  have h256 := pow_le_256 hr
  have hml := mainN_lt hr
  have hm2 : 2 ^ mainN k < 2 ^ k.procs.length := Nat.pow_lt_pow_right (by omega) hml
  have hgl := hF.g_lt
  have HMP := Lib.hid (mainProc_any g v k w hr (hk.below (below_grown hF.grown (by omega) hB)) hF.blk.kat)
  have h60 : ∀ (f : Nat → Nat), (∀ q, f q < 2 ^ k.procs.length) → ∀ x ∈ tabL k f, x < 2 ^ 60 := fun f hf x hx => by
    obtain ⟨q, _, rfl⟩ := List.mem_map.1 hx
    have h1 := hf q
    have h2 : (256 : Nat) ≤ 2 ^ 60 := by decide
    omega
  have HUF := Lib.hid (show ∀ W x9 x10 (h : FC w0 g v k x5 x9 x10 a b c k.procs.length (tabL k (opsT k 4)) (tabL k (opsT k 5)) (tabL k (fromT k)) W) (s : Nat), s < 2 ^ k.procs.length →
      Calls Try.prog 134 #[.slice (some ⟨c, 0, none⟩) k.procs.length k.procs.length, .int .i64 s] W fun e w' => e = .returned (.int .i64 (usedN k s : Nat)) ∧ Below W.heap.size W w' from fun W x9 x10 h s hs => by
    have := unionOf_any (some ⟨c, 0, none⟩) k.procs.length (tabL k (fromT k)) s W (own_rd h.rfr) (by rw [tabL_len]; omega) (h60 _ fun q => setN_lt _ _) (by rw [tabL_len]; exact hs)
    rw [tabL_len] at this
    exact this)
  have HUS := Lib.hid (show ∀ W x9 x10 (h : FC w0 g v k x5 x9 x10 a b c k.procs.length (tabL k (opsT k 4)) (tabL k (opsT k 5)) (tabL k (fromT k)) W) (s : Nat), s < 2 ^ k.procs.length →
      Calls Try.prog 134 #[.slice (some ⟨b, 0, none⟩) k.procs.length k.procs.length, .int .i64 s] W fun e w' => e = .returned (.int .i64 (unionN (tabL k (opsT k 5)) (bitsTo s 62) : Nat)) ∧ Below W.heap.size W w' from fun W x9 x10 h s hs => by
    have := unionOf_any (some ⟨b, 0, none⟩) k.procs.length (tabL k (opsT k 5)) s W (own_rd h.rsp) (by rw [tabL_len]; omega) (h60 _ fun q => setN_lt _ _) (by rw [tabL_len]; exact hs)
    rw [tabL_len] at this
    exact this)
  have HRS := Lib.hid (fun s h => root_step hr (s := s) h)
  have HRX := Lib.hid (fun s h0 hs h hc => root_fix hr (s := s) h0 hs h hc)
  have HUL := Lib.hid (fun s => usedN_lt k s)
  have HUL5 := Lib.hid (fun l => union_lt (k := k) (opsT k 5) (fun q => setN_lt _ _) l)
  have HSH := Lib.hid (shl_one (mainN k) (by omega))
  clear h60 hk hr
  go_enter Try.func114, Try.ntmps114
  go_wp2_with fail
  refine HMP.out.mono ?_
  rintro e w1 ⟨rfl, hb1⟩
  have hF1 := hF.below hb1
  clear hF hb1
  go_wp2_with fail
  rw [HSH.out]
  go_loopg [2, 3] (2 * (2 ^ k.procs.length - 2 ^ mainN k) + 1) (fun l sv ag wr => ∃ (s : Nat) (again : Bool) (x : Value), sv = .int .i64 s ∧ ag = .bool again ∧ s < 2 ^ k.procs.length ∧ s.testBit (mainN k) = true ∧ (∀ q, s.testBit q = true → RootP k q) ∧ (again = false → moreN k s = s ∧ x = .int .i64 (usedN k s : Nat)) ∧
    l = 2 * (2 ^ k.procs.length - s) + (if again then 1 else 0) ∧ FC w0 g v k x5 x9 x a b c k.procs.length (tabL k (opsT k 4)) (tabL k (opsT k 5)) (tabL k (fromT k)) wr)
  case atStart => exact ⟨2 ^ mainN k, true, _, rfl, rfl, hm2, Nat.testBit_two_pow_self, fun q hq => by
      rw [Nat.testBit_two_pow] at hq
      exact .inl (of_decide_eq_true hq).symm, by simp, rfl, hF1⟩
  case round =>
    clear hF1
    obtain ⟨s, again, x, rfl, rfl, hs, h0, hall, hcl, rfl, hF⟩ := hrel
    have H0 := Lib.hid h0
    have HALL := Lib.hid hall
    have HCL := Lib.hid hcl
    clear h0 hall hcl
    cases again
    · have d9 := hF.blk.cell 9 rfl
      have f9 := hF.blk.free 9
      go_wp2_with fail
      go_end0
      obtain ⟨h1, h2⟩ := HCL.out (by simp)
      obtain ⟨e1, e2⟩ := HRX.out s H0.out hs HALL.out h1
      subst h2
      rw [e2] at hF
      have hS := hF.setR (.int .i64 (s : Int))
      refine ⟨rfl, ?_⟩
      have e3 : rootsN k = s := e1.symm
      rw [e3]
      exact hS
    · have d8 := hF.blk.cell 8 rfl
      go_wp2_with fail
      refine (HUF.out _ _ _ hF s hs).mono ?_
      rintro e w2 ⟨rfl, hb2⟩
      have hF2 := hF.below hb2
      have d10 := hF2.blk.cell 10 rfl
      have f10 := hF2.blk.free 10
      have hS := hF2.setU (.int .i64 (usedN k s : Nat))
      have HCC := Lib.hid (show moreN k s = s ||| unionN (tabL k (opsT k 5)) (bitsTo (usedN k s) 62) from rfl)
      have hul := HUL.out s
      have HST := Lib.hid (HRS.out s HALL.out)
      have HUU := Lib.hid (show usedN k s = usedN k s from rfl)
      generalize hu : usedN k s = u at hul hS HCC HUU ⊢
      have HU := Lib.hid hu
      clear hu hF hF2 d8
      go_wp2_with fail
      generalize w2.setCell ⟨g, 10, none⟩ (.int .i64 (u : Int)) = W at hS ⊢
      have c7 : W.cell? ⟨g, 7, none⟩ = some (.slice (some ⟨b, 0, none⟩) k.procs.length k.procs.length) := hS.blk.cell 7 rfl
      have c10 : W.cell? ⟨g, 10, none⟩ = some (.int .i64 (u : Int)) := hS.blk.cell 10 rfl
      go_region_held3 (fun w' => Below W.heap.size W w' ∧ w'.cell? ⟨g, 7, none⟩ = some (.slice (some ⟨b, 0, none⟩) k.procs.length k.procs.length) ∧ w'.cell? ⟨g, 10, none⟩ = some (.int .i64 (u : Int)))
        (first | exact ⟨(Below.refl _ _).drew, c7, c10⟩ | assumption | (go_split_ands; refine ⟨below_trans' (by assumption) hb3, ?_, ?_⟩ <;> exact cell_below hb3 (by assumption)))
        (first | (go_at_call 134; go_split_ands; refine (HUS.out _ _ _ (hS.below (by assumption)) u hul).mono ?_; rintro e w3 ⟨rfl, hb3⟩))
      have hF3 := hS.below (below_trans' ((Below.refl _ _).drew) hb3)
      clear c7 c10 d10 f10 hS
      have hul2 := HUL5.out (bitsTo u 62)
      generalize unionN (tabL k (opsT k 5)) (bitsTo u 62) = u2 at hul2 HCC ⊢
      have eor := i64_or_nat s u2 (by omega) (by omega)
      have hol : s ||| u2 < 2 ^ k.procs.length := Nat.or_lt_two_pow hs hul2
      have hge : s ≤ s ||| u2 := Nat.left_le_or
      have HTB := Lib.hid (show (s ||| u2).testBit (mainN k) = true from by rw [Nat.testBit_or, H0.out]; rfl)
      generalize s ||| u2 = m at hol hge HTB eor HCC
      by_cases hmm : m = s
      · subst hmm
        have en : ((m : Int) != (m : Int)) = false := by simp
        go_wp2_with fail
        go_roundg (2 * (2 ^ k.procs.length - m) + (if false then 1 else 0))
        case measure => simp
        case rel => exact ⟨m, false, _, rfl, rfl, hol, HTB.out, HALL.out, fun _ => ⟨HCC.out, by rw [HU.out]⟩, rfl, hF3⟩
      · have en : ((m : Int) != (s : Int)) = true := by simp; omega
        have hlt2 : s < m := by omega
        clear hmm
        go_wp2_with fail
        go_roundg (2 * (2 ^ k.procs.length - m) + (if true then 1 else 0))
        case measure => simp; omega
        case rel => exact ⟨m, true, _, rfl, rfl, hol, HTB.out, by have h := HST.out; rw [HCC.out] at h; exact h, fun h => by simp at h, rfl, hF3⟩
end Go.Proofs.Ytjnlmiekldflhaa
