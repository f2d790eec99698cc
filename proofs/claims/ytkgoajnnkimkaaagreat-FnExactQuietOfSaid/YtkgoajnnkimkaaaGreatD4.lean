/- Contracts of sitesIn, allProcs; SitesOf and AheadOf, of the program and of the reference. -/
import Derived.Test.YtkgoajnnkimkaaaGreatD3
set_option linter.unusedSimpArgs false
set_option linter.unusedVariables false
namespace Go.Proofs.YtkgoajnnkimkaaaGreat
open Go.ChangeShapes Go.WideShapes Go.ChangeAt Go.RowKit

/-- The places of a list with operation o and argument x. -/
def sel (k : Cd) (o : Int) (x : Nat) (l : List Nat) : List Nat := l.filter fun a => decide (opN k a = o) && decide (argN k a = x)
theorem sel_snoc (k : Cd) (o : Int) (x : Nat) (l : List Nat) (a : Nat) : sel k o x (l ++ [a]) = if opN k a = o ∧ argN k a = x then sel k o x l ++ [a] else sel k o x l := by
  unfold sel
  rw [List.filter_append]
  by_cases h : opN k a = o ∧ argN k a = x
  · rw [if_pos h]; simp [h.1, h.2]
  · rw [if_neg h]
    have : (decide (opN k a = o) && decide (argN k a = x)) = false := by
      rw [Bool.and_eq_false_iff]
      rcases Classical.not_and_iff_not_or_not.1 h with h | h
      · exact .inl (by simpa using h)
      · exact .inr (by simpa using h)
    simp [this]
theorem sel_len (k : Cd) (o : Int) (x : Nat) (l : List Nat) : (sel k o x l).length ≤ l.length := List.length_filter_le _ _
/-- The live places of the procedures of a list with operation o and argument x. -/
noncomputable def sitesL (k : Cd) (o : Int) (x : Nat) (ps : List Nat) : List Nat := ps.flatMap fun p => sel k o x (listN k.ins.length (LiveP k p))
theorem sitesL_snoc (k : Cd) (o : Int) (x : Nat) (ps : List Nat) (p : Nat) : sitesL k o x (ps ++ [p]) = sitesL k o x ps ++ sel k o x (listN k.ins.length (LiveP k p)) := by simp [sitesL]
theorem sitesL_len (k : Cd) (o : Int) (x : Nat) (ps : List Nat) : (sitesL k o x ps).length ≤ ps.length * k.ins.length := by
  induction ps with
  | nil => simp [sitesL]
  | cons p r ih =>
    have h1 := sel_len k o x (listN k.ins.length (LiveP k p))
    have h2 := listN_len k.ins.length (LiveP k p)
    have e : sitesL k o x (p :: r) = sel k o x (listN k.ins.length (LiveP k p)) ++ sitesL k o x r := by simp [sitesL]
    rw [e, List.length_append, List.length_cons, Nat.add_mul]
    omega

set_option maxHeartbeats 1000000 in
theorem sitesIn_any {B : Nat} (g : Nat) (v : CV) (k : Cd) (s : Nat) (o : Int) (x : Nat) (w : World) (hr : Right k) (hk : CodeAt w B v k) (hg : KAt w g v k) (hl : LvAt w B g k) (hs : s < 2 ^ k.procs.length) (hx : x ≤ 1048576) :
    Calls Tryz.prog 107 #[.pointer (some ⟨g, 0, none⟩), .int .i64 s, .int .i64 o, .int .i64 x] w (NewNats w (sitesL k o x (bitsTo s 62))) := by
  have hkf := hk.full
  have hlf := hl.full
  have hins := hr.ins
  have hpl := hr.procs
  have HB := Lib.hid (fun W => bitsOf_nats s W (two60 hr hs))
  have HI := Lib.hid (show ∀ i ∈ bitsTo s 62, i < k.procs.length from fun i hi => lt_of_testBit hs (mem_bitsTo.1 hi).2)
  have HLO := Lib.hid (fun p (hp : p < k.procs.length) W (hb : Below w.heap.size w W) => liveOf_any g v k p W hr (hkf.below hb) (hg.to hb) (hlf.below hb (Nat.le_refl _)) hp)
  have HR := Lib.hid hr
  have hbl := bitsTo_len s 62
  have HSL := Lib.hid (fun ps => sitesL_len k o x ps)
  clear hk hl hr hs
  generalize bitsTo s 62 = bs at *
  go_enter Tryz.func107, Tryz.ntmps107
  go_wp2_with fail
  refine (HB.out _).mono ?_
  rintro e w1 ⟨Ab, cb, rfl, hob, hb1⟩
  have hrb := own_rd hob
  clear hob
  go_wp2_with fail
  go_loopg [9, 17] bs.length (fun l out i wr => ∃ j : Nat, j ≤ bs.length ∧ l = bs.length - j ∧ i = .int .i64 j ∧ wr.ownsRow w1.heap.size 3 1 out (sitesL k o x (bs.take j)).length (nv (sitesL k o x (bs.take j))) ∧ Below w1.heap.size w1 wr)
  case atStart => exact ⟨0, by omega, by omega, rfl, World.ownsRow_nil _ _ _ _, Below.refl _ _⟩
  case round =>
    obtain ⟨j, hj, rfl, rfl, ho, hb⟩ := hrel
    obtain ⟨Ao, co, rfl⟩ := own_form ho
    by_cases hlt : j < bs.length
    · obtain ⟨ad, rfl, _, hc⟩ := (hrb.below hb).nat hlt
      have hil := HI.out bs[j] (List.getElem_mem hlt)
      have HT := Lib.hid (show sitesL k o x (bs.take (j + 1)) = sitesL k o x (bs.take j) ++ sel k o x (listN k.ins.length (LiveP k bs[j])) from by rw [List.take_succ_eq_append_getElem hlt, sitesL_snoc])
      have hsl := HSL.out (bs.take j)
      have htl : (bs.take j).length ≤ 62 := by rw [List.length_take]; omega
      have hsb : (sitesL k o x (bs.take j)).length ≤ 93000 := Nat.le_trans hsl (Nat.le_trans (Nat.mul_le_mul htl hins) (by omega))
      clear hsl htl
      generalize bs[j] = p at *
      have HLP := Lib.hid (HLO.out p hil wr (below_trans' hb1 hb))
      have HXL := Lib.hid (show ∀ a ∈ listN k.ins.length (LiveP k p), a < k.ins.length from fun a ha => (mem_listN.1 ha).1)
      have hll := listN_len k.ins.length (LiveP k p)
      have hbwr := hb.size
      go_wp2_with fail
      refine HLP.out.mono ?_
      rintro e w2 ⟨An, cn, rfl, hon, hb2⟩
      have ho2 := own_below ho hb2
      have hb12 := below_trans' hb hb2
      have hap : Apart (.slice An (listN k.ins.length (LiveP k p)).length cn) (.slice Ao (sitesL k o x (bs.take j)).length co) := fun b h1 h2 => by
        have h3 := (hon.lt b h1).1
        have h4 := (ho.lt b h2).2
        omega
      generalize listN k.ins.length (LiveP k p) = ls at hon HXL hll HT hap ⊢
      generalize sitesL k o x (bs.take j) = out0 at ho2 ho HT hsb hap ⊢
      clear ho
      go_wp2_with fail
      obtain ⟨wo, rfl⟩ : ∃ wo : World, wo = wr := ⟨_, rfl⟩
      go_loopg [9, 25] ls.length (fun l out i wr => ∃ m : Nat, m ≤ ls.length ∧ l = ls.length - m ∧ i = .int .i64 m ∧ wr.ownsRow w1.heap.size 3 1 out (out0 ++ sel k o x (ls.take m)).length (nv (out0 ++ sel k o x (ls.take m))) ∧ Below w1.heap.size w1 wr ∧ wr.ownsRow wo.heap.size 3 1 (.slice An ls.length cn) ls.length (nv ls) ∧ Apart (.slice An ls.length cn) out)
      case atStart => exact ⟨0, by omega, by omega, rfl, by simpa [sel] using ho2, hb12, hon, hap⟩
      case round =>
        clear ho2 hb12 hon hap
        obtain ⟨m, hm, rfl, rfl, ho, hb, hon, hap⟩ := hrel
        obtain ⟨A3, c3', rfl⟩ := own_form ho
        have hsl := sel_len k o x (ls.take m)
        have htm : (ls.take m).length ≤ 1500 := by rw [List.length_take]; omega
        have hlen : (out0 ++ sel k o x (ls.take m)).length ≤ 100000 := by rw [List.length_append]; omega
        have hsz := hb.size
        clear hsl htm
        by_cases hltm : m < ls.length
        · obtain ⟨adn, rfl, hbn, hcj⟩ := (own_rd hon).nat hltm
          have hxl := HXL.out ls[m] (List.getElem_mem hltm)
          have HT2 := Lib.hid (show sel k o x (ls.take (m + 1)) = _ from by rw [List.take_succ_eq_append_getElem hltm, sel_snoc])
          generalize ls[m] = a at *
          have hbw := below_trans' hb1 hb
          obtain ⟨d0, d1, d2, d3, d4⟩ := hg.to hbw
          obtain ⟨ai, A', c', eA, hbi, k0, k1, k2, k3, k4, k5, k6, _⟩ := (hkf.below hbw).full.i.get hxl
          rw [eA] at d4
          rw [opN_eq hxl] at k0
          rw [argN_eq HR.out hxl] at k1
          have z1 : (0 : Int) ≤ (a : Int) := by omega
          have z2 : (a : Int) < (k.ins.length : Int) := by omega
          generalize hO : out0 ++ sel k o x (ls.take m) = out1 at ho hlen hap
          have HO := Lib.hid hO
          clear hO
          by_cases h1 : opN k a = o
          · have e1 : (opN k a == o) = true := by simpa using h1
            by_cases h2 : argN k a = x
            · have e2 : ((argN k a : Int) == (x : Int)) = true := by simp [h2]
              have HT3 := Lib.hid (show out0 ++ sel k o x (ls.take (m + 1)) = out1 ++ [a] from by rw [HT2.out, if_pos ⟨h1, h2⟩, ← List.append_assoc, HO.out])
              clear h1 h2
              go_wp2_with (at_builtin; refine append_int rfl _ _ rfl ho rfl rfl (by omega) hsz ?_; intro A' c' w3 ho3 hg3 hl3)
              go_roundg (ls.length - (m + 1))
              case measure => omega
              case rel =>
                refine ⟨m + 1, by omega, rfl, by go_num, ?_, below_append hb ho hg3 hsz (Nat.le_refl _), hon.kept hg3 hap.kept, ?_⟩
                · rw [HT3.out, nv_snoc, List.length_append]; exact ho3
                · intro b h1 h2
                  rcases hl3 with h3 | h3
                  · rw [h3] at h2; exact hap b h1 h2
                  · rw [h3] at h2
                    have := (hon.lt b h1).2
                    injection h2 with h2
                    omega
            · have e2 : ((argN k a : Int) == (x : Int)) = false := by simp; omega
              have HT3 := Lib.hid (show out0 ++ sel k o x (ls.take (m + 1)) = out1 from by rw [HT2.out, if_neg fun h => h2 h.2, HO.out])
              clear h1 h2
              go_wp2_with fail
              go_roundg (ls.length - (m + 1))
              case measure => omega
              case rel => exact ⟨m + 1, by omega, rfl, by go_num, by rw [HT3.out]; exact ho, hb, hon, hap⟩
          · have e1 : (opN k a == o) = false := by simpa using h1
            have HT3 := Lib.hid (show out0 ++ sel k o x (ls.take (m + 1)) = out1 from by rw [HT2.out, if_neg fun h => h1 h.1, HO.out])
            clear h1
            go_wp2_with fail
            go_roundg (ls.length - (m + 1))
            case measure => omega
            case rel => exact ⟨m + 1, by omega, rfl, by go_num, by rw [HT3.out]; exact ho, hb, hon, hap⟩
        · obtain rfl : m = ls.length := by omega
          go_wp2_with fail
          go_roundg (bs.length - (j + 1))
          case measure => omega
          case rel =>
            have e : sitesL k o x (bs.take (j + 1)) = out0 ++ sel k o x (ls.take ls.length) := by rw [HT.out, List.take_length]
            exact ⟨j + 1, by omega, rfl, by go_num, by rw [e]; exact ho, hb⟩
    · obtain rfl : j = bs.length := by omega
      go_wp2_with fail
      go_ret
      rw [List.take_length] at ho ⊢
      exact ⟨Ao, co, rfl, own_mono ho hb1.size, below_trans' hb1 hb⟩
end Go.Proofs.YtkgoajnnkimkaaaGreat
