/- Contracts of RootsOf, UsedIn, StartsOf, of the program and of the reference; of l14Used and l14Starts. -/
import Derived.Test.YtkgoajnnkimkaaaGreatD12
import Derived.Test.YtkgoajnnkimkaaaGreatD4
import Derived.Test.YtkgoajnnkimkaaaGreatD7
set_option linter.unusedSimpArgs false
set_option linter.unusedVariables false
namespace Go.Proofs.YtkgoajnnkimkaaaGreat
open Go.ChangeShapes Go.WideShapes Go.ChangeAt Go.RowKit

/-- What is answered of right code; else nothing. -/
noncomputable def codeL (k : Cd) (F : List Nat) : List Nat := if codeOkI k = true then F else []
theorem codeL_no {k : Cd} {F : List Nat} (h : codeOkI k = false) : codeL k F = [] := by rw [codeL, if_neg (by rw [h]; simp)]
theorem codeL_yes {k : Cd} {F : List Nat} (h : codeOkI k = true) : codeL k F = F := by rw [codeL, if_pos h]
theorem codeL_len {k : Cd} {F : List Nat} {n : Nat} (h : F.length ≤ n) : (codeL k F).length ≤ n := by
  unfold codeL
  split
  · exact h
  · simp

set_option maxHeartbeats 1000000 in
theorem rootsOf_i {B L : Nat} (v : CV) (k : Cd) (w : World) (hk : CodeAt w B v k) (hcb : CdB L k) (hL : L ≤ 1048576) :
    Calls Tryz.prog 25 #[.agg #[.slice v.gA k.globals.length v.gc, .slice v.lA k.locks.length v.lc, .slice v.pA k.procs.length v.pc, .slice v.eA k.entry.length v.ec, .slice v.iA k.ins.length v.ic]] w (NewNats w (codeL k (listN k.procs.length (RootP k)))) := by
  have hkf := hk.full
  have hbx := codeBox w v k
  have hpl0 := hcb.procs
  have hil0 := hcb.ins
  cases hok : codeOkI k
  · have HW := Lib.hid (fun W (h : CodeAt W w.heap.size v k) => worldOf_no v k W h hcb (by omega) hok)
    have HZ := Lib.hid (show ∀ w', Below w.heap.size w w' → NewNats w (codeL k (listN k.procs.length (RootP k))) (.returned (.slice none 0 0)) w' from fun w' h => newNil (codeL_no hok) h)
    clear hok hcb hk
    go_enter Tryz.func25, Tryz.ntmps25
    go_wp2_with fail
    generalize w.alloc (.cells #[.slice v.gA k.globals.length v.gc, .slice v.lA k.locks.length v.lc, .slice v.pA k.procs.length v.pc, .slice v.eA k.entry.length v.ec, .slice v.iA k.ins.length v.ic] 28) = W at hbx ⊢
    refine (HW.out _ (hkf.below hbx.1)).mono ?_
    rintro e w1 ⟨rfl, hb1⟩
    go_wp2_with fail
    go_ret
    exact HZ.out _ (below_trans' hbx.1 hb1)
  · have HR := Lib.hid (right_of hok)
    have HW := Lib.hid (fun W (h : CodeAt W w.heap.size v k) => worldOf_yes v k W h hcb (by omega) hok)
    have HY := Lib.hid (codeL_yes (F := listN k.procs.length (RootP k)) hok)
    clear hok hcb hk
    go_enter Tryz.func25, Tryz.ntmps25
    go_wp2_with fail
    generalize w.alloc (.cells #[.slice v.gA k.globals.length v.gc, .slice v.lA k.locks.length v.lc, .slice v.pA k.procs.length v.pc, .slice v.eA k.entry.length v.ec, .slice v.iA k.ins.length v.ic] 28) = W at hbx ⊢
    refine (HW.out _ (hkf.below hbx.1)).mono ?_
    rintro e w2 ⟨g, rfl, hgl, hW2, hb1⟩
    have hbx2 := hbx.to hb1
    have hb02 := hbx2.1
    clear hbx hb1
    have h9 := hW2.roots
    have hpl := HR.out.procs
    have HB := bitsOf_nats (rootsN k) w2 (two60 HR.out (setN_lt _ _))
    unfold rootsN at HB h9
    rw [bitsTo_setN (by omega)] at HB
    have HC := Lib.hid HB
    go_wp2_with fail
    refine HC.out.mono ?_
    rintro e w3 ⟨A3, c3', rfl, ho3, hb3⟩
    go_wp2_with fail
    go_ret
    exact NewNats.more ⟨A3, c3', rfl, ho3, hb3⟩ hb02 HY.out

set_option maxHeartbeats 1000000 in
theorem rootsOf_s {B L : Nat} (v : CV) (k : Cd) (w : World) (hk : CodeAt w B v k) (hcb : CdB L k) (hL : L ≤ 1048576) :
    Calls Tryz.prog 33 #[.agg #[.slice v.gA k.globals.length v.gc, .slice v.lA k.locks.length v.lc, .slice v.pA k.procs.length v.pc, .slice v.eA k.entry.length v.ec, .slice v.iA k.ins.length v.ic]] w (NewNats w (codeL k (listN k.procs.length (RootP k)))) := by
  have hkf := hk.full
  have hbx := codeBox w v k
  have hpl0 := hcb.procs
  have hil0 := hcb.ins
  have HG := Lib.hid (fun W (h : CodeAt W w.heap.size v k) => codeOk_sI v k W h hcb (by omega))
  cases hok : codeOkI k
  · have HZ := Lib.hid (show ∀ W, Below w.heap.size w W → NewNats w (codeL k (listN k.procs.length (RootP k))) (.returned (.slice (some ⟨W.heap.size, 0, none⟩) 0 0)) (W.alloc (.cells #[] 3)) from fun W h => newNil0 (codeL_no hok) h)
    rw [hok] at HG
    clear hok hcb hk
    go_enter Tryz.func33, Tryz.ntmps33
    go_wp2_with fail
    generalize w.alloc (.cells #[.slice v.gA k.globals.length v.gc, .slice v.lA k.locks.length v.lc, .slice v.pA k.procs.length v.pc, .slice v.eA k.entry.length v.ec, .slice v.iA k.ins.length v.ic] 28) = W at hbx ⊢
    refine (HG.out _ (hkf.below hbx.1)).mono ?_
    rintro e w1 ⟨rfl, hb1⟩
    go_wp2_with fail
    go_ret
    exact HZ.out _ (below_trans' hbx.1 hb1)
  · rw [hok] at HG
    have hok1 : codeOkI k = true := hok
    have HR := Lib.hid (right_of hok1)
    have HY := Lib.hid (codeL_yes (F := listN k.procs.length (RootP k)) hok1)
    clear hok hok1 hcb hk
    go_enter Tryz.func33, Tryz.ntmps33
    go_wp2_with fail
    generalize w.alloc (.cells #[.slice v.gA k.globals.length v.gc, .slice v.lA k.locks.length v.lc, .slice v.pA k.procs.length v.pc, .slice v.eA k.entry.length v.ec, .slice v.iA k.ins.length v.ic] 28) = W at hbx ⊢
    refine (HG.out _ (hkf.below hbx.1)).mono ?_
    rintro e w2 ⟨rfl, hb2⟩
    have hbx2 := hbx.to hb2
    clear hbx hb2
    have hk2 := hkf.below hbx2.1
    have hb02 := hbx2.1
    obtain ⟨_, _, c0, c1, c2, c3, c4⟩ := id hbx2
    have HC := Lib.hid (l14Roots_any v k w2 HR.out hk2)
    have hpl := HR.out.procs
    go_wp2_with fail
    refine HC.out.mono ?_
    rintro e w3 ⟨Am, cm, rfl, hom, hb3⟩
    have HD := l09Marked_any Am cm (markL k.procs.length (RootP k)) w3 (own_rd hom) (by rw [markL_len]; omega)
    rw [listN_markL, markL_len] at HD
    have HD := Lib.hid HD
    rw [markL_len]
    go_wp2_with fail
    refine HD.out.mono ?_
    rintro e w4 ⟨A3, c3', rfl, ho3, hb4⟩
    go_wp2_with fail
    go_ret
    exact NewNats.more ⟨A3, c3', rfl, ho3, hb4⟩ (below_trans' hb02 hb3) HY.out

/-- Called from one of the first r roots. -/
def UsedTo (k : Cd) (r q : Nat) : Prop := ∃ s, s < r ∧ RootP k s ∧ FromP k s q
theorem used_zero (k : Cd) (n : Nat) : markL n (UsedTo k 0) = List.replicate n false := by
  refine (eq_markL (by simp) fun b _ => ?_).symm
  rw [mkd_replicate]
  simp [UsedTo]
theorem used_all {k : Cd} (hr : Right k) (n : Nat) : markL n (UsedTo k k.procs.length) = markL n (UsedP k) :=
  markL_congr fun i _ => ⟨fun ⟨s, _, h⟩ => ⟨s, h⟩, fun ⟨s, h1, h2⟩ => ⟨s, root_lt hr h1, h1, h2⟩⟩
theorem used_skip {k : Cd} {r : Nat} (h : ¬ RootP k r) (n : Nat) : markL n (UsedTo k (r + 1)) = markL n (UsedTo k r) :=
  markL_congr fun i _ => ⟨fun ⟨s, h1, h2, h3⟩ => by
    rcases Nat.lt_or_ge s r with h4 | h4
    · exact ⟨s, h4, h2, h3⟩
    · have e : s = r := by omega
      subst e
      exact absurd h2 h, fun ⟨s, h1, h2⟩ => ⟨s, by omega, h2⟩⟩
/-- On the way through the marks of r: the first p done. -/
def UsedMid (k : Cd) (r p q : Nat) : Prop := UsedTo k r q ∨ (q < p ∧ FromP k r q)
theorem mid_zero (k : Cd) (r n : Nat) : markL n (UsedMid k r 0) = markL n (UsedTo k r) :=
  markL_congr fun i _ => ⟨fun h => h.resolve_right fun h => by omega, .inl⟩
theorem mid_all {k : Cd} {r : Nat} (h : RootP k r) (n : Nat) : markL n (UsedMid k r n) = markL n (UsedTo k (r + 1)) :=
  markL_congr fun i hi => ⟨fun h1 => by
    rcases h1 with ⟨s, h1, h2⟩ | ⟨_, h1⟩
    · exact ⟨s, by omega, h2⟩
    · exact ⟨r, by omega, h, h1⟩, fun ⟨s, h1, h2, h3⟩ => by
    rcases Nat.lt_or_ge s r with h4 | h4
    · exact .inl ⟨s, h4, h2, h3⟩
    · have e : s = r := by omega
      subst e
      exact .inr ⟨hi, h3⟩⟩
theorem mid_step {k : Cd} {r p n : Nat} (hp : p < n) {b : Bool} (hb : b = true ↔ UsedMid k r p p ∨ FromP k r p) : (markL n (UsedMid k r p)).set p b = markL n (UsedMid k r (p + 1)) := by
  refine eq_markL (by rw [List.length_set, markL_len]) fun q hq => ?_
  rw [mkd_set (by rw [markL_len]; exact hp)]
  split
  · rename_i e
    subst e
    rw [hb]
    exact ⟨fun h => h.elim (fun h => h.elim .inl fun h => absurd h.1 (by omega)) fun h => .inr ⟨by omega, h⟩, fun h => h.elim (fun h => .inl (.inl h)) fun h => .inr h.2⟩
  · rename_i e
    rw [mkd_markL_true]
    exact ⟨fun h => h.2.elim .inl fun h => .inr ⟨by omega, h.2⟩, fun h => ⟨hq, h.elim .inl fun h => .inr ⟨by omega, h.2⟩⟩⟩
theorem mid_self {k : Cd} {r p n : Nat} (hp : p < n) : mkd (markL n (UsedMid k r p)) p = true ↔ UsedMid k r p p := by
  rw [mkd_markL_true]; exact ⟨fun h => h.2, fun h => ⟨hp, h⟩⟩

set_option maxHeartbeats 2000000 in
theorem l14Used_any {B : Nat} (v : CV) (k : Cd) (w : World) (hr : Right k) (hk : CodeAt w B v k) :
    Calls Tryz.prog 110 #[.agg #[.slice v.gA k.globals.length v.gc, .slice v.lA k.locks.length v.lc, .slice v.pA k.procs.length v.pc, .slice v.eA k.entry.length v.ec, .slice v.iA k.ins.length v.ic]] w (NewMarks w (markL k.procs.length (UsedP k))) := by
  have hkf := hk.full
  have hbx := codeBox w v k
  have hpl := hr.procs
  have HRT := Lib.hid (fun W (h : CodeAt W w.heap.size v k) => l14Roots_any v k W hr h)
  have HFR := Lib.hid (fun x (hx : x < k.procs.length) W (h : CodeAt W w.heap.size v k) => l10From_any v k x W hr h hx)
  have HALL := Lib.hid (used_all hr k.procs.length)
  clear hk hr
  go_enter Tryz.func110, Tryz.ntmps110
  go_wp2_with fail
  generalize w.alloc (.cells #[.slice v.gA k.globals.length v.gc, .slice v.lA k.locks.length v.lc, .slice v.pA k.procs.length v.pc, .slice v.eA k.entry.length v.ec, .slice v.iA k.ins.length v.ic] 28) = W at hbx ⊢
  refine (HRT.out _ (hkf.below hbx.1)).mono ?_
  rintro e w1 ⟨Ar, cr, rfl, hor, hb1⟩
  have hbx1 := hbx.to hb1
  have hrr := own_rd hor
  rw [markL_len]
  obtain ⟨q1, q2, c0, c1, c2, c3, c4⟩ := id hbx1
  clear hbx hb1 hor
  go_wp2_with (at_make; refine make_bools _ rfl _ _ rfl k.procs.length rfl rfl (by omega) ?_; intro w2 hown hb2)
  clear q1 q2 c0 c1 c2 c3 c4
  rw [← used_zero k] at hown
  go_loopg [5] k.procs.length (fun l i wr => ∃ r : Nat, r ≤ k.procs.length ∧ l = k.procs.length - r ∧ i = .int .i64 r ∧ Below w1.heap.size w1 wr ∧ wr.ownsRow w1.heap.size 4 1 (.slice (some ⟨w1.heap.size, 0, none⟩) k.procs.length k.procs.length) k.procs.length ((markL k.procs.length (UsedTo k r)).map bv))
  case atStart => exact ⟨0, by omega, by omega, rfl, hb2, hown⟩
  case round =>
    clear hown hb2
    obtain ⟨r, hrl, rfl, rfl, hb, hown⟩ := hrel
    have hbxr := hbx1.to hb
    obtain ⟨q1, q2, c0, c1, c2, c3, c4⟩ := id hbxr
    by_cases hlt : r < k.procs.length
    · obtain ⟨adr, rfl, hbr, hcr⟩ := (hrr.below hb).mark (j := r) (by rw [markL_len]; exact hlt)
      have y1 : (0 : Int) ≤ (r : Int) := by omega
      have y2 : (r : Int) < (k.procs.length : Int) := by omega
      by_cases hrt : RootP k r
      · rw [mkd_markL_pos hlt hrt] at hcr
        have HMA := Lib.hid (mid_all hrt k.procs.length)
        rw [← mid_zero k r] at hown
        go_wp2_with fail
        refine (HFR.out r hlt _ (hkf.below hbxr.1)).mono ?_
        rintro e w3 ⟨Af, cf, rfl, hof, hb3⟩
        rw [markL_len]
        have hbx3 := hbxr.to hb3
        have hown3 := own_below hown hb3
        have hb13 := below_trans' hb hb3
        have hbs := hb.size
        have HW1 := Lib.hid (own_lt hown).2
        clear c0 c1 c2 c3 c4 q1 q2 hcr hown
        rw [markL_len] at hof
        go_wp2_with fail
        obtain ⟨wo, rfl⟩ : ∃ wo : World, wo = wr := ⟨_, rfl⟩
        go_loopg [7] k.procs.length (fun l i wr => ∃ p : Nat, p ≤ k.procs.length ∧ l = k.procs.length - p ∧ i = .int .i64 p ∧ Below w1.heap.size w1 wr ∧ wr.ownsRow w1.heap.size 4 1 (.slice (some ⟨w1.heap.size, 0, none⟩) k.procs.length k.procs.length) k.procs.length ((markL k.procs.length (UsedMid k r p)).map bv) ∧ wr.ownsRow wo.heap.size 4 1 (.slice Af k.procs.length cf) k.procs.length ((markL k.procs.length (FromP k r)).map bv))
        case atStart => exact ⟨0, by omega, by omega, rfl, hb13, hown3, hof⟩
        case round =>
          clear hown3 hb13 hof hbx3
          obtain ⟨p, hp, rfl, rfl, hb, hown, hof⟩ := hrel
          by_cases hltp : p < k.procs.length
          · obtain ⟨adf, rfl, hbf, hcf⟩ := (own_rd hof).mark (j := p) (by rw [markL_len]; exact hltp)
            have hcm := own_at hown (j := p) hltp (u := .bool (mkd (markL k.procs.length (UsedMid k r p)) p)) (by rw [List.getElem?_map, List.getElem?_eq_getElem (by rw [markL_len]; exact hltp), mkd_get (by rw [markL_len]; exact hltp)]; rfl)
            have fz := hown.frozenAt p
            have z1 : (0 : Int) ≤ (p : Int) := by omega
            have z2 : (p : Int) < (k.procs.length : Int) := by omega
            have hgf : w1.heap.size < wo.heap.size := by
              have h1 := (own_lt hown).2
              have h2 := HW1.out
              omega
            cases hm1 : mkd (markL k.procs.length (UsedMid k r p)) p
            · rw [hm1] at hcm
              cases hm2 : mkd (markL k.procs.length (FromP k r)) p
              · rw [hm2] at hcf
                have HST := Lib.hid (mid_step (k := k) (r := r) hltp (b := false) ⟨fun h => by simp at h, fun h => by
                  rcases h with h | h
                  · rw [(mid_self hltp).2 h] at hm1; exact hm1.symm
                  · rw [mkd_markL_pos hltp h] at hm2; exact hm2.symm⟩)
                obtain ⟨s1, s2⟩ := hown.stored p (bv false)
                rw [bv_set, HST.out] at s1
                have hof2 := hof.kept s2 (.inr (fun h1 => by
                  have := (hof.lt w1.heap.size h1).1
                  omega))
                have HB3 := Lib.hid (show Below w1.heap.size w1 (wr.setCell ⟨w1.heap.size, p, none⟩ (bv false)) from hb.setCell (Nat.le_refl _) _)
                have HS1 := Lib.hid s1
                have HO2 := Lib.hid hof2
                clear hm1 hm2 s1 s2 hof2
                go_wp2_with fail
                go_roundg (k.procs.length - (p + 1))
                case measure => omega
                case rel => exact ⟨p + 1, by omega, rfl, by go_num, HB3.out, HS1.out, HO2.out⟩
              · rw [hm2] at hcf
                have HST := Lib.hid (mid_step (k := k) (r := r) hltp (b := true) ⟨fun _ => .inr (mkd_markL_true.1 hm2).2, fun _ => rfl⟩)
                obtain ⟨s1, s2⟩ := hown.stored p (bv true)
                rw [bv_set, HST.out] at s1
                have hof2 := hof.kept s2 (.inr (fun h1 => by
                  have := (hof.lt w1.heap.size h1).1
                  omega))
                have HB3 := Lib.hid (show Below w1.heap.size w1 (wr.setCell ⟨w1.heap.size, p, none⟩ (bv true)) from hb.setCell (Nat.le_refl _) _)
                have HS1 := Lib.hid s1
                have HO2 := Lib.hid hof2
                clear hm1 hm2 s1 s2 hof2
                go_wp2_with fail
                go_roundg (k.procs.length - (p + 1))
                case measure => omega
                case rel => exact ⟨p + 1, by omega, rfl, by go_num, HB3.out, HS1.out, HO2.out⟩
            · rw [hm1] at hcm
              have HST := Lib.hid (mid_step (k := k) (r := r) hltp (b := true) ⟨fun _ => .inl ((mid_self hltp).1 hm1), fun _ => rfl⟩)
              obtain ⟨s1, s2⟩ := hown.stored p (bv true)
              rw [bv_set, HST.out] at s1
              have hof2 := hof.kept s2 (.inr (fun h1 => by
                have := (hof.lt w1.heap.size h1).1
                omega))
              have HB3 := Lib.hid (show Below w1.heap.size w1 (wr.setCell ⟨w1.heap.size, p, none⟩ (bv true)) from hb.setCell (Nat.le_refl _) _)
              have HS1 := Lib.hid s1
              have HO2 := Lib.hid hof2
              clear hm1 s1 s2 hof2 hcf
              go_wp2_with fail
              go_roundg (k.procs.length - (p + 1))
              case measure => omega
              case rel => exact ⟨p + 1, by omega, rfl, by go_num, HB3.out, HS1.out, HO2.out⟩
          · obtain rfl : p = k.procs.length := by omega
            rw [HMA.out] at hown
            go_wp2_with fail
            go_roundg (k.procs.length - (r + 1))
            case measure => omega
            case rel => exact ⟨r + 1, by omega, rfl, by go_num, hb, hown⟩
      · rw [mkd_markL_neg hrt] at hcr
        rw [← used_skip hrt] at hown
        go_wp2_with fail
        go_roundg (k.procs.length - (r + 1))
        case measure => omega
        case rel => exact ⟨r + 1, by omega, rfl, by go_num, hb, hown⟩
    · obtain rfl : r = k.procs.length := by omega
      rw [HALL.out] at hown
      go_wp2_with fail
      go_ret
      exact newMarks_of (own_mono hown hbx1.1.size) (below_trans' hbx1.1 hb)

set_option maxHeartbeats 1000000 in
theorem usedIn_i {B L : Nat} (v : CV) (k : Cd) (w : World) (hk : CodeAt w B v k) (hcb : CdB L k) (hL : L ≤ 1048576) :
    Calls Tryz.prog 26 #[.agg #[.slice v.gA k.globals.length v.gc, .slice v.lA k.locks.length v.lc, .slice v.pA k.procs.length v.pc, .slice v.eA k.entry.length v.ec, .slice v.iA k.ins.length v.ic]] w (NewNats w (codeL k (listN k.procs.length (UsedP k)))) := by
  have hkf := hk.full
  have hbx := codeBox w v k
  have hpl0 := hcb.procs
  have hil0 := hcb.ins
  cases hok : codeOkI k
  · have HW := Lib.hid (fun W (h : CodeAt W w.heap.size v k) => worldOf_no v k W h hcb (by omega) hok)
    have HZ := Lib.hid (show ∀ w', Below w.heap.size w w' → NewNats w (codeL k (listN k.procs.length (UsedP k))) (.returned (.slice none 0 0)) w' from fun w' h => newNil (codeL_no hok) h)
    clear hok hcb hk
    go_enter Tryz.func26, Tryz.ntmps26
    go_wp2_with fail
    generalize w.alloc (.cells #[.slice v.gA k.globals.length v.gc, .slice v.lA k.locks.length v.lc, .slice v.pA k.procs.length v.pc, .slice v.eA k.entry.length v.ec, .slice v.iA k.ins.length v.ic] 28) = W at hbx ⊢
    refine (HW.out _ (hkf.below hbx.1)).mono ?_
    rintro e w1 ⟨rfl, hb1⟩
    go_wp2_with fail
    go_ret
    exact HZ.out _ (below_trans' hbx.1 hb1)
  · have HR := Lib.hid (right_of hok)
    have HW := Lib.hid (fun W (h : CodeAt W w.heap.size v k) => worldOf_yes v k W h hcb (by omega) hok)
    have HY := Lib.hid (codeL_yes (F := listN k.procs.length (UsedP k)) hok)
    clear hok hcb hk
    go_enter Tryz.func26, Tryz.ntmps26
    go_wp2_with fail
    generalize w.alloc (.cells #[.slice v.gA k.globals.length v.gc, .slice v.lA k.locks.length v.lc, .slice v.pA k.procs.length v.pc, .slice v.eA k.entry.length v.ec, .slice v.iA k.ins.length v.ic] 28) = W at hbx ⊢
    refine (HW.out _ (hkf.below hbx.1)).mono ?_
    rintro e w2 ⟨g, rfl, hgl, hW2, hb1⟩
    have hbx2 := hbx.to hb1
    have hb02 := hbx2.1
    clear hbx hb1
    have h9 := hW2.used
    have hpl := HR.out.procs
    have HB := bitsOf_nats (usedS k) w2 (two60 HR.out (setN_lt _ _))
    unfold usedS at HB h9
    rw [bitsTo_setN (by omega)] at HB
    have HC := Lib.hid HB
    go_wp2_with fail
    refine HC.out.mono ?_
    rintro e w3 ⟨A3, c3', rfl, ho3, hb3⟩
    go_wp2_with fail
    go_ret
    exact NewNats.more ⟨A3, c3', rfl, ho3, hb3⟩ hb02 HY.out

set_option maxHeartbeats 1000000 in
theorem usedIn_s {B L : Nat} (v : CV) (k : Cd) (w : World) (hk : CodeAt w B v k) (hcb : CdB L k) (hL : L ≤ 1048576) :
    Calls Tryz.prog 34 #[.agg #[.slice v.gA k.globals.length v.gc, .slice v.lA k.locks.length v.lc, .slice v.pA k.procs.length v.pc, .slice v.eA k.entry.length v.ec, .slice v.iA k.ins.length v.ic]] w (NewNats w (codeL k (listN k.procs.length (UsedP k)))) := by
  have hkf := hk.full
  have hbx := codeBox w v k
  have hpl0 := hcb.procs
  have hil0 := hcb.ins
  have HG := Lib.hid (fun W (h : CodeAt W w.heap.size v k) => codeOk_sI v k W h hcb (by omega))
  cases hok : codeOkI k
  · have HZ := Lib.hid (show ∀ W, Below w.heap.size w W → NewNats w (codeL k (listN k.procs.length (UsedP k))) (.returned (.slice (some ⟨W.heap.size, 0, none⟩) 0 0)) (W.alloc (.cells #[] 3)) from fun W h => newNil0 (codeL_no hok) h)
    rw [hok] at HG
    clear hok hcb hk
    go_enter Tryz.func34, Tryz.ntmps34
    go_wp2_with fail
    generalize w.alloc (.cells #[.slice v.gA k.globals.length v.gc, .slice v.lA k.locks.length v.lc, .slice v.pA k.procs.length v.pc, .slice v.eA k.entry.length v.ec, .slice v.iA k.ins.length v.ic] 28) = W at hbx ⊢
    refine (HG.out _ (hkf.below hbx.1)).mono ?_
    rintro e w1 ⟨rfl, hb1⟩
    go_wp2_with fail
    go_ret
    exact HZ.out _ (below_trans' hbx.1 hb1)
  · rw [hok] at HG
    have hok1 : codeOkI k = true := hok
    have HR := Lib.hid (right_of hok1)
    have HY := Lib.hid (codeL_yes (F := listN k.procs.length (UsedP k)) hok1)
    clear hok hok1 hcb hk
    go_enter Tryz.func34, Tryz.ntmps34
    go_wp2_with fail
    generalize w.alloc (.cells #[.slice v.gA k.globals.length v.gc, .slice v.lA k.locks.length v.lc, .slice v.pA k.procs.length v.pc, .slice v.eA k.entry.length v.ec, .slice v.iA k.ins.length v.ic] 28) = W at hbx ⊢
    refine (HG.out _ (hkf.below hbx.1)).mono ?_
    rintro e w2 ⟨rfl, hb2⟩
    have hbx2 := hbx.to hb2
    clear hbx hb2
    have hk2 := hkf.below hbx2.1
    have hb02 := hbx2.1
    obtain ⟨_, _, c0, c1, c2, c3, c4⟩ := id hbx2
    have HC := Lib.hid (l14Used_any v k w2 HR.out hk2)
    have hpl := HR.out.procs
    go_wp2_with fail
    refine HC.out.mono ?_
    rintro e w3 ⟨Am, cm, rfl, hom, hb3⟩
    have HD := l09Marked_any Am cm (markL k.procs.length (UsedP k)) w3 (own_rd hom) (by rw [markL_len]; omega)
    rw [listN_markL, markL_len] at HD
    have HD := Lib.hid HD
    rw [markL_len]
    go_wp2_with fail
    refine HD.out.mono ?_
    rintro e w4 ⟨A3, c3', rfl, ho3, hb4⟩
    go_wp2_with fail
    go_ret
    exact NewNats.more ⟨A3, c3', rfl, ho3, hb4⟩ (below_trans' hb02 hb3) HY.out

/-- Where root x is started. -/
noncomputable def startsL (k : Cd) (x : Nat) : List Nat := sitesL k 5 x (listN k.procs.length (UsedP k))
theorem startsL_len {k : Cd} (hr : Right k) (x : Nat) : (startsL k x).length ≤ 12000 := by
  have h1 := hr.ins
  have h2 := hr.procs
  have h3 := listN_len k.procs.length (UsedP k)
  exact Nat.le_trans (sitesL_len k 5 _ _) (Nat.le_trans (Nat.mul_le_mul (show (listN k.procs.length (UsedP k)).length ≤ 8 by omega) h1) (by omega))
theorem startsOf_len {k : Cd} {x : Int} : (procL k x (startsL k)).length ≤ 1048576 := by
  unfold procL
  split
  · rename_i h
    simp only [Bool.and_eq_true] at h
    have := startsL_len (right_of h.1) x.toNat
    omega
  · simp

set_option maxHeartbeats 4000000 in
theorem l14Starts_any {B L : Nat} (v : CV) (k : Cd) (x : Nat) (w : World) (hr : Right k) (hk : CodeAt w B v k) (hcb : CdB L k) (hL : L ≤ 1048576) :
    Calls Tryz.prog 171 #[.agg #[.slice v.gA k.globals.length v.gc, .slice v.lA k.locks.length v.lc, .slice v.pA k.procs.length v.pc, .slice v.eA k.entry.length v.ec, .slice v.iA k.ins.length v.ic], .int .i64 x] w (NewNats w (startsL k x)) := by
  show Calls Tryz.prog 171 #[.agg #[.slice v.gA k.globals.length v.gc, .slice v.lA k.locks.length v.lc, .slice v.pA k.procs.length v.pc, .slice v.eA k.entry.length v.ec, .slice v.iA k.ins.length v.ic], .int .i64 x] w (NewNats w (sitesL k 5 x (listN k.procs.length (UsedP k))))
  have hkf := hk.full
  obtain ⟨hbx, hpo⟩ := preOut w v k
  have HR := Lib.hid hr
  have HCB := Lib.hid hcb
  have hins := HR.out.ins
  have hpl := HR.out.procs
  have HUS := Lib.hid (fun W (h : CodeAt W w.heap.size v k) => l14Used_any v k W hr h)
  clear hk hr hcb
  go_enter Tryz.func171, Tryz.ntmps171
  go_wp2_with fail
  generalize (w.alloc (.cells #[.slice v.gA k.globals.length v.gc, .slice v.lA k.locks.length v.lc, .slice v.pA k.procs.length v.pc, .slice v.eA k.entry.length v.ec, .slice v.iA k.ins.length v.ic] 28)).alloc (.cells #[] 3) = W at hbx hpo ⊢
  refine (HUS.out _ (hkf.below hbx.1)).mono ?_
  rintro e w2 ⟨Au, cu, rfl, hou, hb2⟩
  rw [markL_len] at hou ⊢
  have hbx2 := hbx.to hb2
  have hpo2 := own_below hpo hb2
  have hau : Apart (.slice Au k.procs.length cu) (.slice (some ⟨w.heap.size + 1, 0, none⟩) 0 0) := fun b h1 h2 => by
    have h3 := (hou.lt b h1).1
    have h4 := (hpo.lt b h2).2
    omega
  obtain ⟨lu, hlu, hou⟩ : ∃ lu, w.heap.size < lu ∧ w2.ownsRow lu 4 1 (.slice Au k.procs.length cu) k.procs.length ((markL k.procs.length (UsedP k)).map bv) := ⟨W.heap.size, by have := hbx.2.1; omega, hou⟩
  clear hbx hb2 hpo
  go_wp2_with fail
  have HLV := Lib.hid (fun p (hp : p < k.procs.length) W (h : CodeAt W w.heap.size v k) => l09Live_any v k p W HR.out h hp)
  have HEN := Lib.hid (fun p (hp : p < k.procs.length) W (h : CodeAt W w.heap.size v k) => l08End_right v k p W HR.out h HCB.out hL hp)
  have HSL := Lib.hid (fun ps => sitesL_len k 5 x ps)
  have HEL := Lib.hid HR.out.entry
  go_loopg [5, 7] k.procs.length (fun l out i wr => ∃ p : Nat, p ≤ k.procs.length ∧ l = k.procs.length - p ∧ i = .int .i64 p ∧ wr.ownsRow (w.heap.size + 1) 3 1 out (sitesL k 5 x (listN p (UsedP k))).length (nv (sitesL k 5 x (listN p (UsedP k)))) ∧ CodeBox w v k wr ∧ wr.ownsRow lu 4 1 (.slice Au k.procs.length cu) k.procs.length ((markL k.procs.length (UsedP k)).map bv) ∧ Apart (.slice Au k.procs.length cu) out)
  case atStart => exact ⟨0, by omega, by omega, rfl, hpo2, hbx2, hou, hau⟩
  case round =>
    clear hpo2 hbx2 hou hau
    obtain ⟨p, hp, rfl, rfl, ho, hbx, hou, hau⟩ := hrel
    obtain ⟨Ao, co, rfl⟩ := own_form ho
    obtain ⟨q1, q2, c0, c1, c2, c3, c4⟩ := id hbx
    by_cases hlt : p < k.procs.length
    · obtain ⟨adu, eu, hbu, hcu⟩ := (own_rd hou).mark (j := p) (by rw [markL_len]; exact hlt)
      have yy1 : (0 : Int) ≤ (p : Int) := by omega
      have yy2 : (p : Int) < (k.procs.length : Int) := by omega
      subst eu
      by_cases hus : UsedP k p
      · rw [mkd_markL_pos hlt hus] at hcu
        have HT := Lib.hid (show sitesL k 5 x (listN (p + 1) (UsedP k)) = sitesL k 5 x (listN p (UsedP k)) ++ sel k 5 x (listN k.ins.length (LiveP k p)) from by rw [listN_step hus, sitesL_snoc])
        have hsl := HSL.out (listN p (UsedP k))
        have hsb : (sitesL k 5 x (listN p (UsedP k))).length ≤ 93000 := Nat.le_trans hsl (Nat.le_trans (Nat.mul_le_mul (show (listN p (UsedP k)).length ≤ 62 by have := listN_len p (UsedP k); omega) hins) (by omega))
        clear hsl
        have hpe : p < k.entry.length := by have := HEL.out; omega
        have hlf := HR.out.lt p hlt
        go_wp2_with fail
        refine (HLV.out p hlt _ (hkf.below hbx.1)).mono ?_
        rintro e w3 ⟨Am, cm, rfl, hom, hb3⟩
        rw [markL_len]
        clear c0 c1 c2 c3 c4 q1 q2
        have hbx3 := hbx.to hb3
        have ho3 := own_below ho hb3
        have hrm := own_rd hom
        have hap : Apart (.slice Am (markL k.ins.length (LiveP k p)).length cm) (.slice Ao (sitesL k 5 x (listN p (UsedP k))).length co) := fun b h1 h2 => by
          have h3 := (hom.lt b h1).1
          have h4 := (ho.lt b h2).2
          omega
        have hou3 := own_below hou hb3
        clear ho hbx hb3 hou hcu
        obtain ⟨q1, q2, c0, c1, c2, c3, c4⟩ := id hbx3
        obtain ⟨ade, ee, hbe, hce⟩ := entry_cell HR.out (hkf.below hbx3.1).full hlt
        rw [ee] at c3
        clear ee
        generalize sitesL k 5 x (listN p (UsedP k)) = out0 at ho3 HT hsb hap hau ⊢
        have y1 : (0 : Int) ≤ (p : Int) := by omega
        have y2 : (p : Int) < (k.entry.length : Int) := by omega
        have HAT := Lib.hid (show listN (ent k p) (fun x => ent k p ≤ x ∧ LiveP k p x) = [] from listN_none fun i hi h => by omega)
        have HALL := Lib.hid (show listN (fin k p) (fun x => ent k p ≤ x ∧ LiveP k p x) = listN k.ins.length (LiveP k p) from by
          rw [listN_cut (n := k.ins.length) (m := fin k p) hlf.2 fun i h1 h2 h3 => by have := (live_in HR.out hlt h3).2.2.2; omega]
          exact listN_congr fun i hi => ⟨fun h => h.2, fun h => ⟨(live_in HR.out hlt h).2.2.1, h⟩⟩)
        go_wp2_with fail
        clear c0 c1 c2 c3 c4 q1 q2 hce
        obtain ⟨wo, rfl⟩ : ∃ wo : World, wo = wr := ⟨_, rfl⟩
        go_loopg [5, 9] (fin k p - ent k p) (fun l out i wr => ∃ a : Nat, ent k p ≤ a ∧ a ≤ fin k p ∧ l = fin k p - a ∧ i = .int .i64 a ∧ wr.ownsRow (w.heap.size + 1) 3 1 out (out0 ++ sel k 5 x (listN a (fun x => ent k p ≤ x ∧ LiveP k p x))).length (nv (out0 ++ sel k 5 x (listN a (fun x => ent k p ≤ x ∧ LiveP k p x)))) ∧ CodeBox w v k wr ∧ wr.ownsRow wo.heap.size 4 1 (.slice Am k.ins.length cm) k.ins.length ((markL k.ins.length (LiveP k p)).map bv) ∧ Apart (.slice Am k.ins.length cm) out ∧ wr.ownsRow lu 4 1 (.slice (some adu) k.procs.length cu) k.procs.length ((markL k.procs.length (UsedP k)).map bv) ∧ Apart (.slice (some adu) k.procs.length cu) out)
        case atStart =>
          rw [markL_len] at hom hap
          refine ⟨ent k p, by omega, by omega, rfl, rfl, ?_, hbx3, hom, hap, hou3, hau⟩
          rw [HAT.out]
          simpa [sel] using ho3
        case round =>
          clear ho3 hbx3 hom hap hrm hou3 hau
          obtain ⟨a, ha1, ha2, rfl, rfl, ho, hbx, hom, hap, hou, hau⟩ := hrel
          obtain ⟨A3, c3', rfl⟩ := own_form ho
          obtain ⟨q1, q2, c0, c1, c2, c3, c4⟩ := id hbx
          go_wp2_with fail
          refine (HEN.out p hlt _ (hkf.below hbx.1)).mono ?_
          rintro e w4 ⟨rfl, hb4⟩
          clear c0 c1 c2 c3 c4 q1 q2
          have hbx4 := hbx.to hb4
          have ho4 := own_below ho hb4
          have hom4 := own_below hom hb4
          have hou4 := own_below hou hb4
          have hsl := sel_len k 5 x (listN a (fun x => ent k p ≤ x ∧ LiveP k p x))
          have hll := listN_len a (fun x => ent k p ≤ x ∧ LiveP k p x)
          have hlen : (out0 ++ sel k 5 x (listN a (fun x => ent k p ≤ x ∧ LiveP k p x))).length ≤ 100000 := by rw [List.length_append]; omega
          have hsz : w.heap.size + 1 ≤ w4.heap.size := hbx4.2.1
          clear hsl hll ho hbx hom hb4 hou
          by_cases hltm : a < fin k p
          · have hxl : a < k.ins.length := by omega
            have hle : decide ((a : Int) ≤ ((fin k p - 1 : Nat) : Int)) = true := by simp; omega
            obtain ⟨adm, rfl, hbm, hcm⟩ := (own_rd hom4).mark (j := a) (by rw [markL_len]; exact hxl)
            have HT2 := Lib.hid (listN_succ a (fun x => ent k p ≤ x ∧ LiveP k p x))
            have HT5 := Lib.hid (fun l => sel_snoc k 5 x l a)
            obtain ⟨q1, q2, c0, c1, c2, c3, c4⟩ := id hbx4
            obtain ⟨ai, A', c', eA, hbi, k0, k1, k2, k3, k4, k5, k6, _⟩ := (hkf.below hbx4.1).full.i.get hxl
            rw [eA] at c4
            clear eA
            rw [opN_eq hxl] at k0
            rw [argN_eq HR.out hxl] at k1
            have z1 : (0 : Int) ≤ (a : Int) := by omega
            have z2 : (a : Int) < (k.ins.length : Int) := by omega
            generalize hO : listN a (fun x => ent k p ≤ x ∧ LiveP k p x) = l0 at ho4 hlen hap hau HT2
            have HO := Lib.hid hO
            clear hO
            generalize hO1 : out0 ++ sel k 5 x l0 = out1 at ho4 hlen hap hau
            have HO1 := Lib.hid hO1
            clear hO1
            by_cases hlv : LiveP k p a
            · rw [mkd_markL_pos hxl hlv] at hcm
              have HL1 := Lib.hid (show listN (a + 1) (fun x => ent k p ≤ x ∧ LiveP k p x) = l0 ++ [a] from by rw [HT2.out, if_pos ⟨ha1, hlv⟩])
              by_cases h1 : opN k a = 5
              · rw [h1] at k0
                by_cases h2 : argN k a = x
                · have e2 : ((argN k a : Int) == (x : Int)) = true := by simp [h2]
                  have HT3 := Lib.hid (show out0 ++ sel k 5 x (listN (a + 1) (fun x => ent k p ≤ x ∧ LiveP k p x)) = out1 ++ [a] from by rw [HL1.out, HT5.out, if_pos ⟨h1, h2⟩, ← List.append_assoc, HO1.out])
                  clear h1 h2
                  go_wp2_with (at_builtin; refine append_int rfl _ _ rfl ho4 rfl rfl (by omega) hsz ?_; intro A' c' w5 ho5 hg5 hl5)
                  go_roundg (fin k p - (a + 1))
                  case measure => omega
                  case rel =>
                    refine ⟨a + 1, by omega, by omega, rfl, by go_num, ?_, hbx4.app ho4 hg5 (by omega), hom4.kept hg5 hap.kept, ?_, hou4.kept hg5 hau.kept, ?_⟩
                    · rw [HT3.out, nv_snoc, List.length_append]; exact ho5
                    · intro b h1 h2
                      rcases hl5 with h3 | h3
                      · rw [h3] at h2; exact hap b h1 h2
                      · rw [h3] at h2
                        have := (hom4.lt b h1).2
                        injection h2 with h2
                        omega
                    · intro b h1 h2
                      rcases hl5 with h3 | h3
                      · rw [h3] at h2; exact hau b h1 h2
                      · rw [h3] at h2
                        have := (hou4.lt b h1).2
                        injection h2 with h2
                        omega
                · have e2 : ((argN k a : Int) == (x : Int)) = false := by simp; omega
                  have HT3 := Lib.hid (show out0 ++ sel k 5 x (listN (a + 1) (fun x => ent k p ≤ x ∧ LiveP k p x)) = out1 from by rw [HL1.out, HT5.out, if_neg fun h => h2 h.2, HO1.out])
                  clear h1 h2
                  go_wp2_with fail
                  go_roundg (fin k p - (a + 1))
                  case measure => omega
                  case rel => exact ⟨a + 1, by omega, by omega, rfl, by go_num, by rw [HT3.out]; exact ho4, hbx4, hom4, hap, hou4, hau⟩
              · have e1 : (opN k a == 5) = false := by simpa using h1
                have HT3 := Lib.hid (show out0 ++ sel k 5 x (listN (a + 1) (fun x => ent k p ≤ x ∧ LiveP k p x)) = out1 from by rw [HL1.out, HT5.out, if_neg fun h => h1 h.1, HO1.out])
                clear h1
                go_wp2_with fail
                go_roundg (fin k p - (a + 1))
                case measure => omega
                case rel => exact ⟨a + 1, by omega, by omega, rfl, by go_num, by rw [HT3.out]; exact ho4, hbx4, hom4, hap, hou4, hau⟩
            · rw [mkd_markL_neg hlv] at hcm
              have HT3 := Lib.hid (show out0 ++ sel k 5 x (listN (a + 1) (fun x => ent k p ≤ x ∧ LiveP k p x)) = out1 from by rw [HT2.out, if_neg fun h => hlv h.2, HO1.out])
              go_wp2_with fail
              go_roundg (fin k p - (a + 1))
              case measure => omega
              case rel => exact ⟨a + 1, by omega, by omega, rfl, by go_num, by rw [HT3.out]; exact ho4, hbx4, hom4, hap, hou4, hau⟩
          · obtain rfl : a = fin k p := by omega
            have hle : decide ((fin k p : Int) ≤ ((fin k p - 1 : Nat) : Int)) = false := by simp; omega
            go_wp2_with fail
            go_roundg (k.procs.length - (p + 1))
            case measure => omega
            case rel =>
              have e : sitesL k 5 x (listN (p + 1) (UsedP k)) = out0 ++ sel k 5 x (listN (fin k p) (fun x => ent k p ≤ x ∧ LiveP k p x)) := by rw [HT.out, HALL.out]
              rw [List.length_append] at ho4 hau
              exact ⟨p + 1, by omega, rfl, by go_num, by rw [e, List.length_append]; exact ho4, hbx4, hou4, hau⟩
      · rw [mkd_markL_neg hus] at hcu
        have HT := Lib.hid (listN_skip (n := p) hus)
        go_wp2_with fail
        go_roundg (k.procs.length - (p + 1))
        case measure => omega
        case rel => exact ⟨p + 1, by omega, rfl, by go_num, by rw [HT.out]; exact ho, hbx, hou, hau⟩
    · obtain rfl : p = k.procs.length := by omega
      go_wp2_with fail
      go_ret
      exact ⟨Ao, co, rfl, own_mono ho (by omega), hbx.1⟩

set_option maxHeartbeats 1000000 in
theorem startsOf_i {B L : Nat} (v : CV) (k : Cd) (at_ : Int) (w : World) (hk : CodeAt w B v k) (hcb : CdB L k) (hL : L ≤ 1048576) :
    Calls Tryz.prog 30 #[.agg #[.slice v.gA k.globals.length v.gc, .slice v.lA k.locks.length v.lc, .slice v.pA k.procs.length v.pc, .slice v.eA k.entry.length v.ec, .slice v.iA k.ins.length v.ic], .int .i64 at_] w (NewNats w (procL k at_ (startsL k))) := by
  have hkf := hk.full
  have hbx := codeBox w v k
  have hpl0 := hcb.procs
  have hil0 := hcb.ins
  cases hok : codeOkI k
  · have HW := Lib.hid (fun W (h : CodeAt W w.heap.size v k) => worldOf_no v k W h hcb (by omega) hok)
    have HZ := Lib.hid (show ∀ w', Below w.heap.size w w' → NewNats w (procL k at_ (startsL k)) (.returned (.slice none 0 0)) w' from fun w' h => newNil (procL_no (and_no1 hok)) h)
    clear hok hcb hk
    go_enter Tryz.func30, Tryz.ntmps30
    go_wp2_with fail
    generalize w.alloc (.cells #[.slice v.gA k.globals.length v.gc, .slice v.lA k.locks.length v.lc, .slice v.pA k.procs.length v.pc, .slice v.eA k.entry.length v.ec, .slice v.iA k.ins.length v.ic] 28) = W at hbx ⊢
    refine (HW.out _ (hkf.below hbx.1)).mono ?_
    rintro e w1 ⟨rfl, hb1⟩
    go_wp2_with fail
    go_ret
    exact HZ.out _ (below_trans' hbx.1 hb1)
  · have HR := Lib.hid (right_of hok)
    have HW := Lib.hid (fun W (h : CodeAt W w.heap.size v k) => worldOf_yes v k W h hcb (by omega) hok)
    cases hpl : (decide (0 ≤ at_) && decide (at_ < k.procs.length))
    · have HZ := Lib.hid (show ∀ w', Below w.heap.size w w' → NewNats w (procL k at_ (startsL k)) (.returned (.slice none 0 0)) w' from fun w' h => newNil (procL_no (and_no2 hpl)) h)
      have HPL := Lib.hid hpl
      clear hok hpl hcb hk
      go_enter Tryz.func30, Tryz.ntmps30
      go_wp2_with fail
      generalize w.alloc (.cells #[.slice v.gA k.globals.length v.gc, .slice v.lA k.locks.length v.lc, .slice v.pA k.procs.length v.pc, .slice v.eA k.entry.length v.ec, .slice v.iA k.ins.length v.ic] 28) = W at hbx ⊢
      refine (HW.out _ (hkf.below hbx.1)).mono ?_
      rintro e w1 ⟨g, rfl, hgl, hW, hb1⟩
      have hbx1 := hbx.to hb1
      obtain ⟨hbw, hsz, c0, c1, c2, c3, c4⟩ := id hbx1
      go_wp2_with fail
      refine (isProc_any g v k _ _ hW.kat (by omega)).mono ?_
      rintro e w2 ⟨rfl, rfl⟩
      have hb2 := Below.refl w1.heap.size w1
      rw [HPL.out]
      go_wp2_with fail
      go_ret
      exact HZ.out _ (below_trans' hbw hb2)
    · obtain ⟨a, rfl, hal⟩ : ∃ a : Nat, at_ = a ∧ a < k.procs.length := by
        simp only [Bool.and_eq_true, decide_eq_true_eq] at hpl
        exact ⟨at_.toNat, by omega, by omega⟩
      have HY := Lib.hid (procL_yes (F := startsL k) hok hal)
      have HPL := Lib.hid hpl
      clear hok hpl hcb hk
      go_enter Tryz.func30, Tryz.ntmps30
      go_wp2_with fail
      generalize w.alloc (.cells #[.slice v.gA k.globals.length v.gc, .slice v.lA k.locks.length v.lc, .slice v.pA k.procs.length v.pc, .slice v.eA k.entry.length v.ec, .slice v.iA k.ins.length v.ic] 28) = W at hbx ⊢
      refine (HW.out _ (hkf.below hbx.1)).mono ?_
      rintro e w1 ⟨g, rfl, hgl, hW, hb1⟩
      have hbx1 := hbx.to hb1
      obtain ⟨hbw, hsz, c0, c1, c2, c3, c4⟩ := id hbx1
      go_wp2_with fail
      refine (isProc_any g v k _ _ hW.kat (by omega)).mono ?_
      rintro e w2 ⟨rfl, rfl⟩
      have hb2 := Below.refl w1.heap.size w1
      rw [HPL.out]
      clear c0 c1 c2 c3 c4
      have hW2 := hW.below hb2
      have hb02 := below_trans' hbw hb2
      have hbx2 := hbx1.to hb2
      clear hbx1 hbw hsz hb2 hb1 hbx
      have h10 := hW2.used
      have hpl := HR.out.procs
      have HC := sitesIn_any g v k (usedS k) 5 a w1 HR.out hW2.code hW2.kat hW2.live (setN_lt _ _) (by omega)
      rw [show bitsTo (usedS k) 62 = listN k.procs.length (UsedP k) from bitsTo_setN (by omega)] at HC
      have HC := Lib.hid HC
      go_wp2_with fail
      refine HC.out.mono ?_
      rintro e w3 ⟨A3, c3', rfl, ho3, hb3⟩
      go_wp2_with fail
      go_ret
      exact NewNats.more ⟨A3, c3', rfl, ho3, hb3⟩ hb02 HY.out

end Go.Proofs.YtkgoajnnkimkaaaGreat
