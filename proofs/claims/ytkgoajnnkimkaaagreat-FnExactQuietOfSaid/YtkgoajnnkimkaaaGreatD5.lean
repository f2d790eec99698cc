/- Contracts of allProcs; SitesOf and AheadOf, of the program and of the reference. -/
import Derived.Test.YtkgoajnnkimkaaaGreatD4
set_option linter.unusedSimpArgs false
set_option linter.unusedVariables false
namespace Go.Proofs.YtkgoajnnkimkaaaGreat
open Go.ChangeShapes Go.WideShapes Go.ChangeAt Go.RowKit
theorem bitsTo_all {n : Nat} (hn : n ≤ 62) : bitsTo (2 ^ n - 1) 62 = List.range n := by
  have hp := Nat.two_pow_pos n
  rw [bitsTo_stop (2 ^ n - 1) n 62 (by omega) hn]
  unfold bitsTo
  rw [List.filter_eq_self]
  intro i hi
  simp only [List.mem_range] at hi
  rw [Nat.testBit_two_pow_sub_one]
  simpa using hi
theorem allProcs_any (g : Nat) (v : CV) (k : Cd) (w : World) (hr : Right k) (hg : KAt w g v k) :
    Calls Tryz.prog 129 #[.pointer (some ⟨g, 0, none⟩)] w fun e w' => e = .returned (.int .i64 ((2 ^ k.procs.length - 1 : Nat) : Int)) ∧ w = w' := by
  obtain ⟨c0, c1, c2, c3, c4⟩ := hg
  have hpl := hr.procs
  have h256 := pow_le_256 hr
  have hp := Nat.two_pow_pos k.procs.length
  have e1 := shl_one k.procs.length (by omega)
  have HS := Lib.hid e1
  clear e1 hr
  go_enter Tryz.func129, Tryz.ntmps129
  go_wp2_with fail
  go_ret
  refine ⟨ret_int ?_, rfl⟩
  first
    | (rw [HS.out]; generalize 2 ^ k.procs.length = m at *; rw [IntWalk.wrap64_in _ ⟨by omega, by omega⟩]; omega)
    | (have e2 : ((2 : Int) ^ k.procs.length) = ((2 ^ k.procs.length : Nat) : Int) := by simp
       rw [e2]; omega)
/-- The answer's list laid down ahead of all. -/
theorem preOut (w : World) (v : CV) (k : Cd) : CodeBox w v k ((w.alloc (.cells #[.slice v.gA k.globals.length v.gc, .slice v.lA k.locks.length v.lc, .slice v.pA k.procs.length v.pc, .slice v.eA k.entry.length v.ec, .slice v.iA k.ins.length v.ic] 28)).alloc (.cells #[] 3)) ∧ ((w.alloc (.cells #[.slice v.gA k.globals.length v.gc, .slice v.lA k.locks.length v.lc, .slice v.pA k.procs.length v.pc, .slice v.eA k.entry.length v.ec, .slice v.iA k.ins.length v.ic] 28)).alloc (.cells #[] 3)).ownsRow (w.heap.size + 1) 3 1 (.slice (some ⟨w.heap.size + 1, 0, none⟩) 0 0) 0 (nv []) := by
  refine ⟨(codeBox w v k).to (below_alloc0 _ _), ?_⟩
  have := World.ownsRow_lit (base := w.heap.size + 1) (e := 3) (size := 1) (w.alloc (.cells #[.slice v.gA k.globals.length v.gc, .slice v.lA k.locks.length v.lc, .slice v.pA k.procs.length v.pc, .slice v.eA k.entry.length v.ec, .slice v.iA k.ins.length v.ic] 28)) #[] 0 (by simp) (by simp) rfl
  simpa [nv] using this
/-- The box lies in the block that w makes next, the answer's rows behind it. -/
theorem CodeBox.app {w W W' : World} {v : CV} {k : Cd} {e : TypeId} {size n base : Nat} {x : Value} {xs : List Value} (h : CodeBox w v k W) (ho : W.ownsRow base e size x n xs) (hg : W.grownBy W' x.ownBlock) (hb : w.heap.size < base) : CodeBox w v k W' := by
  obtain ⟨h1, h2, h3⟩ := h
  have h4 : KAt W w.heap.size v k := h3
  have hne : some w.heap.size ≠ x.ownBlock := fun h => by
    have := (ho.lt _ h.symm).1
    omega
  refine ⟨h1.grown hg (by omega) fun b hb' => ?_, Nat.lt_of_lt_of_le h2 hg.size, h4.grown hg hne⟩
  have := (ho.lt b hb').1
  omega
theorem l08End_right {B L : Nat} (v : CV) (k : Cd) (p : Nat) (w : World) (hr : Right k) (hk : CodeAt w B v k) (hcb : CdB L k) (hL : L ≤ 1048576) (hp : p < k.procs.length) :
    Calls Tryz.prog 93 #[.agg #[.slice v.gA k.globals.length v.gc, .slice v.lA k.locks.length v.lc, .slice v.pA k.procs.length v.pc, .slice v.eA k.entry.length v.ec, .slice v.iA k.ins.length v.ic], .int .i64 p] w fun r w' => r = .returned (.int .i64 ((fin k p - 1 : Nat) : Int)) ∧ Below w.heap.size w w' := by
  have h1 := hr.fin_eq p hp
  have h2 := hr.lt p hp
  have h3 := hr.procs
  have := l08End_any v k p w hk hcb (by omega) (by omega) (fun h => by
    rw [entryAt_eq k _ h, hr.ent_eq _ h]; omega)
  rw [h1] at this
  have e : ((fin k p : Int) - 1) = ((fin k p - 1 : Nat) : Int) := by omega
  rw [e] at this
  exact this

set_option maxHeartbeats 1000000 in
theorem sitesOf_i {B L : Nat} (v : CV) (k : Cd) (at_ : Int) (w : World) (hk : CodeAt w B v k) (hcb : CdB L k) (hL : L ≤ 1048576) :
    Calls Tryz.prog 58 #[.agg #[.slice v.gA k.globals.length v.gc, .slice v.lA k.locks.length v.lc, .slice v.pA k.procs.length v.pc, .slice v.eA k.entry.length v.ec, .slice v.iA k.ins.length v.ic], .int .i64 at_] w (NewNats w (procL k at_ (fun x => sitesL k 4 x (List.range k.procs.length)))) := by
  have hkf := hk.full
  have hbx := codeBox w v k
  have hpl0 := hcb.procs
  have hil0 := hcb.ins
  cases hok : codeOkI k
  · have HW := Lib.hid (fun W (h : CodeAt W w.heap.size v k) => worldOf_no v k W h hcb (by omega) hok)
    have HZ := Lib.hid (show ∀ w', Below w.heap.size w w' → NewNats w (procL k at_ (fun x => sitesL k 4 x (List.range k.procs.length))) (.returned (.slice none 0 0)) w' from fun w' h => newNil (procL_no (and_no1 hok)) h)
    clear hok hcb hk
    go_enter Tryz.func58, Tryz.ntmps58
    go_wp2_with fail
    generalize w.alloc (.cells #[.slice v.gA k.globals.length v.gc, .slice v.lA k.locks.length v.lc, .slice v.pA k.procs.length v.pc, .slice v.eA k.entry.length v.ec, .slice v.iA k.ins.length v.ic] 28) = W at hbx ⊢
    refine (HW.out _ (hkf.below hbx.1)).mono ?_
    rintro e w1 ⟨rfl, hb1⟩
    go_wp2_with fail
    go_ret
    exact HZ.out _ (below_trans' hbx.1 hb1)
  · have HR := Lib.hid (right_of hok)
    have HW := Lib.hid (fun W (h : CodeAt W w.heap.size v k) => worldOf_yes v k W h hcb (by omega) hok)
    cases hpl : (decide (0 ≤ at_) && decide (at_ < k.procs.length))
    · have HZ := Lib.hid (show ∀ w', Below w.heap.size w w' → NewNats w (procL k at_ (fun x => sitesL k 4 x (List.range k.procs.length))) (.returned (.slice none 0 0)) w' from fun w' h => newNil (procL_no (and_no2 hpl)) h)
      have HPL := Lib.hid hpl
      clear hok hpl hcb hk
      go_enter Tryz.func58, Tryz.ntmps58
      go_wp2_with fail
      generalize w.alloc (.cells #[.slice v.gA k.globals.length v.gc, .slice v.lA k.locks.length v.lc, .slice v.pA k.procs.length v.pc, .slice v.eA k.entry.length v.ec, .slice v.iA k.ins.length v.ic] 28) = W at hbx ⊢
      refine (HW.out _ (hkf.below hbx.1)).mono ?_
      rintro e w1 ⟨g, rfl, hgl, hW, hb1⟩
      have hbx1 := hbx.to hb1
      obtain ⟨hbw, hsz, c0, c1, c2, c3, c4⟩ := id hbx1
      go_wp2_with fail
      refine (isProc_any g v k _ _ hW.kat (by omega)).mono ?_
      rintro e w2 ⟨rfl, rfl⟩
      have hb2 := Below.refl w1.heap.size w1
      rw [HPL.out]
      go_wp2_with fail
      go_ret
      exact HZ.out _ (below_trans' hbw hb2)
    · obtain ⟨a, rfl, hal⟩ : ∃ a : Nat, at_ = a ∧ a < k.procs.length := by
        simp only [Bool.and_eq_true, decide_eq_true_eq] at hpl
        exact ⟨at_.toNat, by omega, by omega⟩
      have HY := Lib.hid (procL_yes (F := fun x => sitesL k 4 x (List.range k.procs.length)) hok hal)
      have HPL := Lib.hid hpl
      clear hok hpl hcb hk
      go_enter Tryz.func58, Tryz.ntmps58
      go_wp2_with fail
      generalize w.alloc (.cells #[.slice v.gA k.globals.length v.gc, .slice v.lA k.locks.length v.lc, .slice v.pA k.procs.length v.pc, .slice v.eA k.entry.length v.ec, .slice v.iA k.ins.length v.ic] 28) = W at hbx ⊢
      refine (HW.out _ (hkf.below hbx.1)).mono ?_
      rintro e w1 ⟨g, rfl, hgl, hW, hb1⟩
      have hbx1 := hbx.to hb1
      obtain ⟨hbw, hsz, c0, c1, c2, c3, c4⟩ := id hbx1
      go_wp2_with fail
      refine (isProc_any g v k _ _ hW.kat (by omega)).mono ?_
      rintro e w2 ⟨rfl, rfl⟩
      have hb2 := Below.refl w1.heap.size w1
      rw [HPL.out]
      clear c0 c1 c2 c3 c4
      have hW2 := hW.below hb2
      have hb02 := below_trans' hbw hb2
      have hbx2 := hbx1.to hb2
      clear hbx1 hbw hsz hb2 hb1 hbx
      have HA := Lib.hid (allProcs_any g v k w1 HR.out hW2.kat)
      have hpl := HR.out.procs
      have hpp := Nat.two_pow_pos k.procs.length
      have HC := sitesIn_any g v k (2 ^ k.procs.length - 1) 4 a w1 HR.out hW2.code hW2.kat hW2.live (by omega) (by omega)
      rw [bitsTo_all (by omega)] at HC
      have HC := Lib.hid HC
      go_wp2_with fail
      refine HA.out.mono ?_
      rintro e w3 ⟨rfl, rfl⟩
      generalize 2 ^ k.procs.length - 1 = al at HC ⊢
      go_wp2_with fail
      refine HC.out.mono ?_
      rintro e w3 ⟨A3, c3, rfl, ho3, hb3⟩
      go_wp2_with fail
      go_ret
      exact NewNats.more ⟨A3, c3, rfl, ho3, hb3⟩ hb02 HY.out

set_option maxHeartbeats 1000000 in
theorem sitesOf_s {B L : Nat} (v : CV) (k : Cd) (at_ : Int) (w : World) (hk : CodeAt w B v k) (hcb : CdB L k) (hL : L ≤ 1048576) :
    Calls Tryz.prog 63 #[.agg #[.slice v.gA k.globals.length v.gc, .slice v.lA k.locks.length v.lc, .slice v.pA k.procs.length v.pc, .slice v.eA k.entry.length v.ec, .slice v.iA k.ins.length v.ic], .int .i64 at_] w (NewNats w (procL k at_ (fun x => sitesL k 4 x (List.range k.procs.length)))) := by
  have hkf := hk.full
  obtain ⟨hbx, hpo⟩ := preOut w v k
  have hpl0 := hcb.procs
  have hil0 := hcb.ins
  have HG := Lib.hid (fun W (h : CodeAt W w.heap.size v k) => l10Ok_any v k at_ W h hcb (by omega))
  cases hok : (codeOkI k && (decide (0 ≤ at_) && decide (at_ < k.procs.length)))
  · have HZ := Lib.hid (procL_no (F := fun x => sitesL k 4 x (List.range k.procs.length)) hok)
    rw [hok] at HG
    clear hok hcb hk
    go_enter Tryz.func63, Tryz.ntmps63
    go_wp2_with fail
    generalize (w.alloc (.cells #[.slice v.gA k.globals.length v.gc, .slice v.lA k.locks.length v.lc, .slice v.pA k.procs.length v.pc, .slice v.eA k.entry.length v.ec, .slice v.iA k.ins.length v.ic] 28)).alloc (.cells #[] 3) = W at hbx hpo ⊢
    refine (HG.out _ (hkf.below hbx.1)).mono ?_
    rintro e w1 ⟨rfl, hb1⟩
    have ho1 := own_below hpo hb1
    go_wp2_with fail
    go_ret
    rw [HZ.out]
    exact ⟨_, _, rfl, own_mono ho1 (by omega), below_trans' hbx.1 hb1⟩
  · rw [hok] at HG
    obtain ⟨hok1, x, rfl, hal⟩ : codeOkI k = true ∧ ∃ a : Nat, at_ = a ∧ a < k.procs.length := by
      simp only [Bool.and_eq_true, decide_eq_true_eq] at hok
      exact ⟨hok.1, at_.toNat, by omega, by omega⟩
    have HR := Lib.hid (right_of hok1)
    have HY := Lib.hid (procL_yes (F := fun x => sitesL k 4 x (List.range k.procs.length)) hok1 hal)
    have HCB := Lib.hid hcb
    have hins := HR.out.ins
    have hpl := HR.out.procs
    clear hok hok1 hcb hk
    go_enter Tryz.func63, Tryz.ntmps63
    go_wp2_with fail
    generalize (w.alloc (.cells #[.slice v.gA k.globals.length v.gc, .slice v.lA k.locks.length v.lc, .slice v.pA k.procs.length v.pc, .slice v.eA k.entry.length v.ec, .slice v.iA k.ins.length v.ic] 28)).alloc (.cells #[] 3) = W at hbx hpo ⊢
    refine (HG.out _ (hkf.below hbx.1)).mono ?_
    rintro e w2 ⟨rfl, hb2⟩
    have hbx2 := hbx.to hb2
    have hpo2 := own_below hpo hb2
    clear hbx hb2 hpo
    go_wp2_with fail
    have HLV := Lib.hid (fun p (hp : p < k.procs.length) W (h : CodeAt W w.heap.size v k) => l09Live_any v k p W HR.out h hp)
    have HEN := Lib.hid (fun p (hp : p < k.procs.length) W (h : CodeAt W w.heap.size v k) => l08End_right v k p W HR.out h HCB.out hL hp)
    have HSL := Lib.hid (fun ps => sitesL_len k 4 x ps)
    have HEL := Lib.hid HR.out.entry
    go_loopg [5, 6] k.procs.length (fun l out i wr => ∃ p : Nat, p ≤ k.procs.length ∧ l = k.procs.length - p ∧ i = .int .i64 p ∧ wr.ownsRow (w.heap.size + 1) 3 1 out (sitesL k 4 x (List.range p)).length (nv (sitesL k 4 x (List.range p))) ∧ CodeBox w v k wr)
    case atStart => exact ⟨0, by omega, by omega, rfl, hpo2, hbx2⟩
    case round =>
      clear hpo2 hbx2
      obtain ⟨p, hp, rfl, rfl, ho, hbx⟩ := hrel
      obtain ⟨Ao, co, rfl⟩ := own_form ho
      obtain ⟨q1, q2, c0, c1, c2, c3, c4⟩ := id hbx
      by_cases hlt : p < k.procs.length
      · have HT := Lib.hid (show sitesL k 4 x (List.range (p + 1)) = sitesL k 4 x (List.range p) ++ sel k 4 x (listN k.ins.length (LiveP k p)) from by rw [List.range_succ, sitesL_snoc])
        have hsl := HSL.out (List.range p)
        have hsb : (sitesL k 4 x (List.range p)).length ≤ 93000 := Nat.le_trans hsl (Nat.le_trans (Nat.mul_le_mul (show (List.range p).length ≤ 62 by simp; omega) hins) (by omega))
        clear hsl
        have hpe : p < k.entry.length := by have := HEL.out; omega
        have hlf := HR.out.lt p hlt
        go_wp2_with fail
        refine (HLV.out p hlt _ (hkf.below hbx.1)).mono ?_
        rintro e w3 ⟨Am, cm, rfl, hom, hb3⟩
        rw [markL_len]
        clear c0 c1 c2 c3 c4 q1 q2
        have hbx3 := hbx.to hb3
        have ho3 := own_below ho hb3
        have hrm := own_rd hom
        have hap : Apart (.slice Am (markL k.ins.length (LiveP k p)).length cm) (.slice Ao (sitesL k 4 x (List.range p)).length co) := fun b h1 h2 => by
          have h3 := (hom.lt b h1).1
          have h4 := (ho.lt b h2).2
          omega
        clear ho hbx hb3
        obtain ⟨q1, q2, c0, c1, c2, c3, c4⟩ := id hbx3
        obtain ⟨ade, ee, hbe, hce⟩ := entry_cell HR.out (hkf.below hbx3.1).full hlt
        rw [ee] at c3
        clear ee
        generalize sitesL k 4 x (List.range p) = out0 at ho3 HT hsb hap ⊢
        have y1 : (0 : Int) ≤ (p : Int) := by omega
        have y2 : (p : Int) < (k.entry.length : Int) := by omega
        have HAT := Lib.hid (show listN (ent k p) (fun x => ent k p ≤ x ∧ LiveP k p x) = [] from listN_none fun i hi h => by omega)
        have HALL := Lib.hid (show listN (fin k p) (fun x => ent k p ≤ x ∧ LiveP k p x) = listN k.ins.length (LiveP k p) from by
          rw [listN_cut (n := k.ins.length) (m := fin k p) hlf.2 fun i h1 h2 h3 => by have := (live_in HR.out hlt h3).2.2.2; omega]
          exact listN_congr fun i hi => ⟨fun h => h.2, fun h => ⟨(live_in HR.out hlt h).2.2.1, h⟩⟩)
        go_wp2_with fail
        clear c0 c1 c2 c3 c4 q1 q2 hce
        obtain ⟨wo, rfl⟩ : ∃ wo : World, wo = wr := ⟨_, rfl⟩
        go_loopg [5, 8] (fin k p - ent k p) (fun l out i wr => ∃ a : Nat, ent k p ≤ a ∧ a ≤ fin k p ∧ l = fin k p - a ∧ i = .int .i64 a ∧ wr.ownsRow (w.heap.size + 1) 3 1 out (out0 ++ sel k 4 x (listN a (fun x => ent k p ≤ x ∧ LiveP k p x))).length (nv (out0 ++ sel k 4 x (listN a (fun x => ent k p ≤ x ∧ LiveP k p x)))) ∧ CodeBox w v k wr ∧ wr.ownsRow wo.heap.size 4 1 (.slice Am k.ins.length cm) k.ins.length ((markL k.ins.length (LiveP k p)).map bv) ∧ Apart (.slice Am k.ins.length cm) out)
        case atStart =>
          rw [markL_len] at hom hap
          refine ⟨ent k p, by omega, by omega, rfl, rfl, ?_, hbx3, hom, hap⟩
          rw [HAT.out]
          simpa [sel] using ho3
        case round =>
          clear ho3 hbx3 hom hap hrm
          obtain ⟨a, ha1, ha2, rfl, rfl, ho, hbx, hom, hap⟩ := hrel
          obtain ⟨A3, c3', rfl⟩ := own_form ho
          obtain ⟨q1, q2, c0, c1, c2, c3, c4⟩ := id hbx
          go_wp2_with fail
          refine (HEN.out p hlt _ (hkf.below hbx.1)).mono ?_
          rintro e w4 ⟨rfl, hb4⟩
          clear c0 c1 c2 c3 c4 q1 q2
          have hbx4 := hbx.to hb4
          have ho4 := own_below ho hb4
          have hom4 := own_below hom hb4
          have hsl := sel_len k 4 x (listN a (fun x => ent k p ≤ x ∧ LiveP k p x))
          have hll := listN_len a (fun x => ent k p ≤ x ∧ LiveP k p x)
          have hlen : (out0 ++ sel k 4 x (listN a (fun x => ent k p ≤ x ∧ LiveP k p x))).length ≤ 100000 := by rw [List.length_append]; omega
          have hsz : w.heap.size + 1 ≤ w4.heap.size := hbx4.2.1
          clear hsl hll ho hbx hom hb4
          by_cases hltm : a < fin k p
          · have hxl : a < k.ins.length := by omega
            have hle : decide ((a : Int) ≤ ((fin k p - 1 : Nat) : Int)) = true := by simp; omega
            obtain ⟨adm, rfl, hbm, hcm⟩ := (own_rd hom4).mark (j := a) (by rw [markL_len]; exact hxl)
            have HT2 := Lib.hid (listN_succ a (fun x => ent k p ≤ x ∧ LiveP k p x))
            have HT5 := Lib.hid (fun l => sel_snoc k 4 x l a)
            obtain ⟨q1, q2, c0, c1, c2, c3, c4⟩ := id hbx4
            obtain ⟨ai, A', c', eA, hbi, k0, k1, k2, k3, k4, k5, k6, _⟩ := (hkf.below hbx4.1).full.i.get hxl
            rw [eA] at c4
            clear eA
            rw [opN_eq hxl] at k0
            rw [argN_eq HR.out hxl] at k1
            have z1 : (0 : Int) ≤ (a : Int) := by omega
            have z2 : (a : Int) < (k.ins.length : Int) := by omega
            generalize hO : listN a (fun x => ent k p ≤ x ∧ LiveP k p x) = l0 at ho4 hlen hap HT2
            have HO := Lib.hid hO
            clear hO
            generalize hO1 : out0 ++ sel k 4 x l0 = out1 at ho4 hlen hap
            have HO1 := Lib.hid hO1
            clear hO1
            by_cases hlv : LiveP k p a
            · rw [mkd_markL_pos hxl hlv] at hcm
              have HL1 := Lib.hid (show listN (a + 1) (fun x => ent k p ≤ x ∧ LiveP k p x) = l0 ++ [a] from by rw [HT2.out, if_pos ⟨ha1, hlv⟩])
              by_cases h1 : opN k a = 4
              · rw [h1] at k0
                by_cases h2 : argN k a = x
                · have e2 : ((argN k a : Int) == (x : Int)) = true := by simp [h2]
                  have HT3 := Lib.hid (show out0 ++ sel k 4 x (listN (a + 1) (fun x => ent k p ≤ x ∧ LiveP k p x)) = out1 ++ [a] from by rw [HL1.out, HT5.out, if_pos ⟨h1, h2⟩, ← List.append_assoc, HO1.out])
                  clear h1 h2
                  go_wp2_with (at_builtin; refine append_int rfl _ _ rfl ho4 rfl rfl (by omega) hsz ?_; intro A' c' w5 ho5 hg5 hl5)
                  go_roundg (fin k p - (a + 1))
                  case measure => omega
                  case rel =>
                    refine ⟨a + 1, by omega, by omega, rfl, by go_num, ?_, hbx4.app ho4 hg5 (by omega), hom4.kept hg5 hap.kept, ?_⟩
                    · rw [HT3.out, nv_snoc, List.length_append]; exact ho5
                    · intro b h1 h2
                      rcases hl5 with h3 | h3
                      · rw [h3] at h2; exact hap b h1 h2
                      · rw [h3] at h2
                        have := (hom4.lt b h1).2
                        injection h2 with h2
                        omega
                · have e2 : ((argN k a : Int) == (x : Int)) = false := by simp; omega
                  have HT3 := Lib.hid (show out0 ++ sel k 4 x (listN (a + 1) (fun x => ent k p ≤ x ∧ LiveP k p x)) = out1 from by rw [HL1.out, HT5.out, if_neg fun h => h2 h.2, HO1.out])
                  clear h1 h2
                  go_wp2_with fail
                  go_roundg (fin k p - (a + 1))
                  case measure => omega
                  case rel => exact ⟨a + 1, by omega, by omega, rfl, by go_num, by rw [HT3.out]; exact ho4, hbx4, hom4, hap⟩
              · have e1 : (opN k a == 4) = false := by simpa using h1
                have HT3 := Lib.hid (show out0 ++ sel k 4 x (listN (a + 1) (fun x => ent k p ≤ x ∧ LiveP k p x)) = out1 from by rw [HL1.out, HT5.out, if_neg fun h => h1 h.1, HO1.out])
                clear h1
                go_wp2_with fail
                go_roundg (fin k p - (a + 1))
                case measure => omega
                case rel => exact ⟨a + 1, by omega, by omega, rfl, by go_num, by rw [HT3.out]; exact ho4, hbx4, hom4, hap⟩
            · rw [mkd_markL_neg hlv] at hcm
              have HT3 := Lib.hid (show out0 ++ sel k 4 x (listN (a + 1) (fun x => ent k p ≤ x ∧ LiveP k p x)) = out1 from by rw [HT2.out, if_neg fun h => hlv h.2, HO1.out])
              go_wp2_with fail
              go_roundg (fin k p - (a + 1))
              case measure => omega
              case rel => exact ⟨a + 1, by omega, by omega, rfl, by go_num, by rw [HT3.out]; exact ho4, hbx4, hom4, hap⟩
          · obtain rfl : a = fin k p := by omega
            have hle : decide ((fin k p : Int) ≤ ((fin k p - 1 : Nat) : Int)) = false := by simp; omega
            go_wp2_with fail
            go_roundg (k.procs.length - (p + 1))
            case measure => omega
            case rel =>
              have e : sitesL k 4 x (List.range (p + 1)) = out0 ++ sel k 4 x (listN (fin k p) (fun x => ent k p ≤ x ∧ LiveP k p x)) := by rw [HT.out, HALL.out]
              rw [List.length_append] at ho4
              exact ⟨p + 1, by omega, rfl, by go_num, by rw [e, List.length_append]; exact ho4, hbx4⟩
      · obtain rfl : p = k.procs.length := by omega
        go_wp2_with fail
        go_ret
        rw [HY.out]
        exact ⟨Ao, co, rfl, own_mono ho (by omega), hbx.1⟩
end Go.Proofs.YtkgoajnnkimkaaaGreat
