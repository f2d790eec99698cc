/- Contracts of Moved, of the program and of the reference. -/
import Derived.Test.YtjnlmiekldflhaaMoved
set_option linter.unusedSimpArgs false
set_option linter.unusedVariables false
namespace Go.Proofs.Ytjnlmiekldflhaa
open Go.ChangeShapes Go.WideShapes Go.ChangeAt Go.RowKit

theorem movedA_no {k : Cd} {es : List (Int × Int)} {a h : Int} (hn : (decide (0 ≤ a) && decide (a < k.ins.length)) = false ∨ isSetB h = false ∨ tabB k.procs.length es = false ∨ codeOkI k = false) : movedA k es a h = 0 := by
  rw [movedA, if_neg]
  rintro ⟨h1, h2, h3, h4, h5⟩
  rcases hn with e | e | e | e
  · simp [h1, h2] at e
  · rw [h3] at e; simp at e
  · rw [h4] at e; simp at e
  · rw [h5] at e; simp at e
theorem movedA_yes {k : Cd} {es : List (Int × Int)} {n h : Nat} (hl : n < k.ins.length) (h1 : isSetB (h : Int) = true) (h2 : tabB k.procs.length es = true) (h3 : codeOkI k = true) : movedA k es n h = (movedV k.ins[n].op k.ins[n].arg.toNat es h : Nat) := by
  rw [movedA, if_pos ⟨by omega, by omega, h1, h2, h3⟩]
  simp [hl]
/-- What is needed of the arguments where all is right. -/
theorem moved_pre {k : Cd} {es : List (Int × Int)} {n : Nat} (hl : n < k.ins.length) (h2 : tabB k.procs.length es = true) (h3 : codeOkI k = true) :
    (∀ e ∈ es, effB e = true) ∧ k.ins[n].arg = (k.ins[n].arg.toNat : Int) ∧ (k.ins[n].op = 6 ∨ k.ins[n].op = 7 → k.ins[n].arg.toNat < 6) ∧ (k.ins[n].op = 4 → k.ins[n].arg.toNat < es.length) := by
  have hr := right_of h3
  obtain ⟨a1, a2⟩ := hr.arg n hl
  simp only [tabB, Bool.and_eq_true, decide_eq_true_eq, List.all_eq_true] at h2
  refine ⟨h2.2, by omega, ?_, ?_⟩
  · intro ho
    rw [argMost, if_neg (by omega), if_neg (by omega), if_pos ho] at a2
    have := hr.locks
    omega
  · intro ho
    rw [argMost, if_neg (by omega), if_pos (.inl ho)] at a2
    have := h2.1
    omega

set_option maxHeartbeats 2000000 in
theorem moved_i {B B' L : Nat} (v : CV) (k : Cd) (A : Option Addr) (c : Nat) (es : List (Int × Int)) (at_ held : Int) (w : World) (hk : CodeAt w B v k) (hcb : CdB L k) (hL : L ≤ 1048576) (he : Rd w B' A (effCells es)) (hn : es.length ≤ 1048576) :
    Calls Try.prog 20 #[.agg #[.slice v.gA k.globals.length v.gc, .slice v.lA k.locks.length v.lc, .slice v.pA k.procs.length v.pc, .slice v.eA k.entry.length v.ec, .slice v.iA k.ins.length v.ic], .slice A es.length c, .int .i64 at_, .int .i64 held] w fun e w' => e = .returned (.int .i64 (movedA k es at_ held)) ∧ Below w.heap.size w w' := by
  have hkf := hk.full
  have hef := he.full
  have hbx := codeBox w v k
  have HP := Lib.hid (fun W => isPlace_any v k at_ W)
  have HS := Lib.hid (fun W => isSet_any held W)
  have HE := Lib.hid (fun W (h : Rd W w.heap.size A (effCells es)) => effectsRight_any A c k.procs.length es W h hn (by have := hcb.procs; omega))
  have HC := Lib.hid (fun W (h : CodeAt W w.heap.size v k) => codeOk_i v k W h hcb (by omega))
  have HN := Lib.hid (fun h => movedA_no (k := k) (es := es) (a := at_) (h := held) h)
  have l1 := hcb.ins
  clear hk he
  have hx1 : ∀ b, (decide (0 ≤ at_) && decide (at_ < k.ins.length)) = b → b = true → ∃ n : Nat, at_ = n ∧ n < k.ins.length := fun b h1 h2 => by
    rw [h2] at h1
    simp only [Bool.and_eq_true, decide_eq_true_eq] at h1
    exact ⟨at_.toNat, by omega, by omega⟩
  have hx2 : ∀ b, isSetB held = b → b = true → ∃ n : Nat, held = n ∧ n < 64 := fun b h1 h2 => isSetB_nat (h1.trans h2)
  cases hpl : (decide (0 ≤ at_) && decide (at_ < k.ins.length))
  · have HZ := Lib.hid (HN.out (.inl hpl))
    rw [hpl] at HP
    clear hx1 hx2 hpl HN
    go_enter Try.func20, Try.ntmps20
    go_wp2_with fail
    generalize w.alloc (.cells #[.slice v.gA k.globals.length v.gc, .slice v.lA k.locks.length v.lc, .slice v.pA k.procs.length v.pc, .slice v.eA k.entry.length v.ec, .slice v.iA k.ins.length v.ic] 33) = W at hbx ⊢
    refine (HP.out _).mono ?_
    rintro r w1 ⟨rfl, hb1⟩
    go_wp2_with fail
    go_ret
    exact ⟨ret_int HZ.out.symm, below_trans' hbx.1 hb1⟩
  · rw [hpl] at HP
    obtain ⟨n, rfl, hnl⟩ := hx1 _ hpl rfl
    cases hst : isSetB held
    · have HZ := Lib.hid (HN.out (.inr (.inl hst)))
      rw [hst] at HS
      clear hx1 hx2 hpl HN hst
      go_enter Try.func20, Try.ntmps20
      go_wp2_with fail
      generalize w.alloc (.cells #[.slice v.gA k.globals.length v.gc, .slice v.lA k.locks.length v.lc, .slice v.pA k.procs.length v.pc, .slice v.eA k.entry.length v.ec, .slice v.iA k.ins.length v.ic] 33) = W at hbx ⊢
      refine (HP.out _).mono ?_
      rintro r w1 ⟨rfl, hb1⟩
      go_wp2_with fail
      refine (HS.out _).mono ?_
      rintro r w2 ⟨rfl, rfl⟩
      go_wp2_with fail
      go_ret
      exact ⟨ret_int HZ.out.symm, below_trans' hbx.1 hb1⟩
    · rw [hst] at HS
      obtain ⟨hd, rfl, hdl⟩ := hx2 _ hst rfl
      cases htb : tabB k.procs.length es
      · have HZ := Lib.hid (HN.out (.inr (.inr (.inl htb))))
        rw [htb] at HE
        clear hx1 hx2 hpl HN hst htb
        go_enter Try.func20, Try.ntmps20
        go_wp2_with fail
        generalize w.alloc (.cells #[.slice v.gA k.globals.length v.gc, .slice v.lA k.locks.length v.lc, .slice v.pA k.procs.length v.pc, .slice v.eA k.entry.length v.ec, .slice v.iA k.ins.length v.ic] 33) = W at hbx ⊢
        refine (HP.out _).mono ?_
        rintro r w1 ⟨rfl, hb1⟩
        go_wp2_with fail
        refine (HS.out _).mono ?_
        rintro r w2 ⟨rfl, rfl⟩
        have hbx1 := hbx.to hb1
        obtain ⟨hbw, hsz, c0, c1, c2, c3, c4⟩ := id hbx1
        go_wp2_with fail
        refine (HE.out _ (hef.below hbx1.1)).mono ?_
        rintro r w3 ⟨rfl, hb3⟩
        go_wp2_with fail
        go_ret
        exact ⟨ret_int HZ.out.symm, below_trans' hbx1.1 hb3⟩
      · rw [htb] at HE
        cases hok : codeOkI k
        · have HZ := Lib.hid (HN.out (.inr (.inr (.inr hok))))
          rw [hok] at HC
          clear hx1 hx2 hpl HN hst htb hok
          go_enter Try.func20, Try.ntmps20
          go_wp2_with fail
          generalize w.alloc (.cells #[.slice v.gA k.globals.length v.gc, .slice v.lA k.locks.length v.lc, .slice v.pA k.procs.length v.pc, .slice v.eA k.entry.length v.ec, .slice v.iA k.ins.length v.ic] 33) = W at hbx ⊢
          refine (HP.out _).mono ?_
          rintro r w1 ⟨rfl, hb1⟩
          go_wp2_with fail
          refine (HS.out _).mono ?_
          rintro r w2 ⟨rfl, rfl⟩
          have hbx1 := hbx.to hb1
          obtain ⟨hbw, hsz, c0, c1, c2, c3, c4⟩ := id hbx1
          go_wp2_with fail
          refine (HE.out _ (hef.below hbx1.1)).mono ?_
          clear hbw hsz c0 c1 c2 c3 c4
          rintro r w3 ⟨rfl, hb3⟩
          have hbx3 := hbx1.to hb3
          obtain ⟨hbw, hsz, c0, c1, c2, c3, c4⟩ := id hbx3
          go_wp2_with fail
          refine (HC.out _ (hkf.below hbx3.1)).mono ?_
          rintro r w4 ⟨rfl, hb4⟩
          go_wp2_with fail
          go_ret
          exact ⟨ret_int HZ.out.symm, below_trans' hbx3.1 hb4⟩
        · rw [hok] at HC
          obtain ⟨m1, m2, m3, m4⟩ := moved_pre hnl htb hok
          have HM := Lib.hid (movedA_yes hnl hst htb hok)
          have HB := Lib.hid (fun W Ak ck (h : Rd W w.heap.size A (effCells es)) => behind_any k.ins[n].op k.ins[n].arg k.ins[n].arg.toNat k.ins[n].term k.ins[n].to Ak A ck c es hd W h hn m1 hdl m2 m3 m4)
          clear hx1 hx2 hpl HN hst htb hok m1 m2 m3 m4
          have z1 : (0 : Int) ≤ (n : Int) := by omega
          have z2 : (n : Int) < (k.ins.length : Int) := by omega
          go_enter Try.func20, Try.ntmps20
          go_wp2_with fail
          generalize w.alloc (.cells #[.slice v.gA k.globals.length v.gc, .slice v.lA k.locks.length v.lc, .slice v.pA k.procs.length v.pc, .slice v.eA k.entry.length v.ec, .slice v.iA k.ins.length v.ic] 33) = W at hbx ⊢
          refine (HP.out _).mono ?_
          rintro r w1 ⟨rfl, hb1⟩
          go_wp2_with fail
          refine (HS.out _).mono ?_
          rintro r w2 ⟨rfl, rfl⟩
          have hbx1 := hbx.to hb1
          obtain ⟨hbw, hsz, c0, c1, c2, c3, c4⟩ := id hbx1
          go_wp2_with fail
          refine (HE.out _ (hef.below hbx1.1)).mono ?_
          clear hbw hsz c0 c1 c2 c3 c4
          rintro r w3 ⟨rfl, hb3⟩
          have hbx3 := hbx1.to hb3
          obtain ⟨hbw, hsz, c0, c1, c2, c3, c4⟩ := id hbx3
          go_wp2_with fail
          refine (HC.out _ (hkf.below hbx3.1)).mono ?_
          clear hbw hsz c0 c1 c2 c3 c4
          rintro r w4 ⟨rfl, hb4⟩
          have hbx4 := hbx3.to hb4
          obtain ⟨hbw, hsz, c0, c1, c2, c3, c4⟩ := id hbx4
          obtain ⟨ad, A', c', eA, hbl, k0, k1, k2, k3, k4, k5, k6, _⟩ := (hkf.below hbx4.1).i.get hnl
          rw [eA] at c4
          go_wp2_with fail
          refine (HB.out _ A' c' (hef.below hbx4.1)).mono ?_
          rintro r w5 ⟨rfl, hb5⟩
          go_wp2_with fail
          go_ret
          exact ⟨ret_int HM.out.symm, below_trans' hbx4.1 hb5⟩

set_option maxHeartbeats 2000000 in
theorem moved_s {B B' L : Nat} (v : CV) (k : Cd) (A : Option Addr) (c : Nat) (es : List (Int × Int)) (at_ held : Int) (w : World) (hk : CodeAt w B v k) (hcb : CdB L k) (hL : L ≤ 1048576) (he : Rd w B' A (effCells es)) (hn : es.length ≤ 1048576) :
    Calls Try.prog 17 #[.agg #[.slice v.gA k.globals.length v.gc, .slice v.lA k.locks.length v.lc, .slice v.pA k.procs.length v.pc, .slice v.eA k.entry.length v.ec, .slice v.iA k.ins.length v.ic], .slice A es.length c, .int .i64 at_, .int .i64 held] w fun e w' => e = .returned (.int .i64 (movedA k es at_ held)) ∧ Below w.heap.size w w' := by
  have hkf := hk.full
  have hef := he.full
  have hbx := codeBox w v k
  have HP := Lib.hid (fun W (h : CodeAt W w.heap.size v k) => l09At_any v k at_ W h hcb (by omega))
  have HS := Lib.hid (fun W => l12Ok_any held W)
  have HE := Lib.hid (fun W (h : Rd W w.heap.size A (effCells es)) => l13Table_any v k A c es W h hn (by have := hcb.procs; omega))
  have HN := Lib.hid (fun h => movedA_no (k := k) (es := es) (a := at_) (h := held) h)
  have l1 := hcb.ins
  clear hk he
  have hx1 : ∀ b, (codeOkI k && (decide (0 ≤ at_) && decide (at_ < k.ins.length))) = b → b = true → codeOkI k = true ∧ ∃ n : Nat, at_ = n ∧ n < k.ins.length := fun b h1 h2 => by
    rw [h2] at h1
    simp only [Bool.and_eq_true, decide_eq_true_eq] at h1
    exact ⟨h1.1, at_.toNat, by omega, by omega⟩
  have hx2 : ∀ b, isSetB held = b → b = true → ∃ n : Nat, held = n ∧ n < 64 := fun b h1 h2 => isSetB_nat (h1.trans h2)
  cases hpl : (codeOkI k && (decide (0 ≤ at_) && decide (at_ < k.ins.length)))
  · have HZ := Lib.hid (HN.out (by
      rcases Bool.and_eq_false_iff.1 hpl with e | e
      · exact .inr (.inr (.inr e))
      · exact .inl e))
    rw [hpl] at HP
    clear hx1 hx2 hpl HN
    go_enter Try.func17, Try.ntmps17
    go_wp2_with fail
    generalize w.alloc (.cells #[.slice v.gA k.globals.length v.gc, .slice v.lA k.locks.length v.lc, .slice v.pA k.procs.length v.pc, .slice v.eA k.entry.length v.ec, .slice v.iA k.ins.length v.ic] 33) = W at hbx ⊢
    refine (HP.out _ (hkf.below hbx.1)).mono ?_
    rintro r w1 ⟨rfl, hb1⟩
    go_wp2_with fail
    go_ret
    exact ⟨ret_int HZ.out.symm, below_trans' hbx.1 hb1⟩
  · rw [hpl] at HP
    obtain ⟨hok, n, rfl, hnl⟩ := hx1 _ hpl rfl
    cases htb : tabB k.procs.length es
    · have HZ := Lib.hid (HN.out (.inr (.inr (.inl htb))))
      rw [htb] at HE
      clear hx1 hx2 hpl HN htb
      go_enter Try.func17, Try.ntmps17
      go_wp2_with fail
      generalize w.alloc (.cells #[.slice v.gA k.globals.length v.gc, .slice v.lA k.locks.length v.lc, .slice v.pA k.procs.length v.pc, .slice v.eA k.entry.length v.ec, .slice v.iA k.ins.length v.ic] 33) = W at hbx ⊢
      refine (HP.out _ (hkf.below hbx.1)).mono ?_
      rintro r w1 ⟨rfl, hb1⟩
      have hbx1 := hbx.to hb1
      obtain ⟨hbw, hsz, c0, c1, c2, c3, c4⟩ := id hbx1
      go_wp2_with fail
      refine (HE.out _ (hef.below hbx1.1)).mono ?_
      rintro r w3 ⟨rfl, hb3⟩
      go_wp2_with fail
      go_ret
      exact ⟨ret_int HZ.out.symm, below_trans' hbx1.1 hb3⟩
    · rw [htb] at HE
      cases hst : isSetB held
      · have HZ := Lib.hid (HN.out (.inr (.inl hst)))
        rw [hst] at HS
        clear hx1 hx2 hpl HN hst htb
        go_enter Try.func17, Try.ntmps17
        go_wp2_with fail
        generalize w.alloc (.cells #[.slice v.gA k.globals.length v.gc, .slice v.lA k.locks.length v.lc, .slice v.pA k.procs.length v.pc, .slice v.eA k.entry.length v.ec, .slice v.iA k.ins.length v.ic] 33) = W at hbx ⊢
        refine (HP.out _ (hkf.below hbx.1)).mono ?_
        rintro r w1 ⟨rfl, hb1⟩
        have hbx1 := hbx.to hb1
        obtain ⟨hbw, hsz, c0, c1, c2, c3, c4⟩ := id hbx1
        go_wp2_with fail
        refine (HE.out _ (hef.below hbx1.1)).mono ?_
        rintro r w3 ⟨rfl, hb3⟩
        go_wp2_with fail
        refine (HS.out _).mono ?_
        rintro r w2 ⟨rfl, rfl⟩
        go_wp2_with fail
        go_ret
        exact ⟨ret_int HZ.out.symm, below_trans' hbx1.1 hb3⟩
      · rw [hst] at HS
        obtain ⟨hd, rfl, hdl⟩ := hx2 _ hst rfl
        obtain ⟨m1, m2, m3, m4⟩ := moved_pre hnl htb hok
        have HM := Lib.hid (movedA_yes hnl hst htb hok)
        have HB := Lib.hid (fun W Ak ck (h : Rd W w.heap.size A (effCells es)) => l13Moved_any k.ins[n].op k.ins[n].arg k.ins[n].arg.toNat k.ins[n].term k.ins[n].to Ak A ck c es hd W h hn m1 hdl m2 m3 m4)
        clear hx1 hx2 hpl HN hst htb hok m1 m2 m3 m4
        have z1 : (0 : Int) ≤ (n : Int) := by omega
        have z2 : (n : Int) < (k.ins.length : Int) := by omega
        go_enter Try.func17, Try.ntmps17
        go_wp2_with fail
        generalize w.alloc (.cells #[.slice v.gA k.globals.length v.gc, .slice v.lA k.locks.length v.lc, .slice v.pA k.procs.length v.pc, .slice v.eA k.entry.length v.ec, .slice v.iA k.ins.length v.ic] 33) = W at hbx ⊢
        refine (HP.out _ (hkf.below hbx.1)).mono ?_
        rintro r w1 ⟨rfl, hb1⟩
        have hbx1 := hbx.to hb1
        obtain ⟨hbw, hsz, c0, c1, c2, c3, c4⟩ := id hbx1
        go_wp2_with fail
        refine (HE.out _ (hef.below hbx1.1)).mono ?_
        clear hbw hsz c0 c1 c2 c3 c4
        rintro r w3 ⟨rfl, hb3⟩
        go_wp2_with fail
        refine (HS.out _).mono ?_
        rintro r w2 ⟨rfl, rfl⟩
        have hbx4 := hbx1.to hb3
        obtain ⟨hbw, hsz, c0, c1, c2, c3, c4⟩ := id hbx4
        obtain ⟨ad, A', c', eA, hbl, k0, k1, k2, k3, k4, k5, k6, _⟩ := (hkf.below hbx4.1).i.get hnl
        rw [eA] at c4
        go_wp2_with fail
        refine (HB.out _ A' c' (hef.below hbx4.1)).mono ?_
        rintro r w5 ⟨rfl, hb5⟩
        go_wp2_with fail
        go_ret
        exact ⟨ret_int HM.out.symm, below_trans' hbx4.1 hb5⟩
end Go.Proofs.Ytjnlmiekldflhaa
