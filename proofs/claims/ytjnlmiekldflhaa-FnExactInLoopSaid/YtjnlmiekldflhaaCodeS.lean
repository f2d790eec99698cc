/- Contract of the reference's l08Ins: instructions with a term; and of CodeOk. -/
import Derived.Test.YtjnlmiekldflhaaInsV
set_option linter.unusedSimpArgs false
set_option linter.unusedVariables false
namespace Go.Proofs.Ytjnlmiekldflhaa
open Go.ChangeShapes Go.WideShapes Go.ChangeAt Go.RowKit

set_option maxHeartbeats 8000000 in
theorem l08Ins_set {B L : Nat} (v : CV) (k : Cd) (a : Nat) (w : World) (hk : CodeAt w B v k) (hcb : CdB L k) (hL : L ≤ 1099511627776) (hd : Head k) (ha : a < k.ins.length) (hop : k.ins[a].op = 1) (h1 : 0 ≤ k.ins[a].arg) (h2 : k.ins[a].arg < argMost k k.ins[a].op) :
    Calls Try.prog 109 #[.agg #[.slice v.gA k.globals.length v.gc, .slice v.lA k.locks.length v.lc, .slice v.pA k.procs.length v.pc, .slice v.eA k.entry.length v.ec, .slice v.iA k.ins.length v.ic], .int .i64 a] w fun r w' => r = .returned (.bool (insS k a)) ∧ Below w.heap.size w w' := by
  have hkf := hk.full
  have hil := hcb.ins
  have hgl := hcb.globals
  have hll := hcb.locks
  have hpl := hcb.procs
  have hel := hcb.entry
  have hxb := hcb.insB _ (List.getElem_mem ha)
  obtain ⟨hpq, hql⟩ := hd.proc a
  have fin : ∀ (y : Bool) w', y = insS k a → Below w.heap.size w w' → Ending.returned (.bool y) = .returned (.bool (insS k a)) ∧ Below w.heap.size w w' := fun y w' h1 h2 => ⟨by rw [h1], h2⟩
  have HN := Lib.hid (show insS k a = insB k k.ins[a] (entryAt k (procN k a)) (endP k (procN k a)) from by rw [insS, insBat, List.getElem?_eq_getElem ha])
  obtain ⟨ai, A2, c2, ei, hbi, m0, m1, m2, m3, m4, m5, m6, mk⟩ := hkf.i.get ha
  generalize k.ins[a] = x at *
  obtain ⟨f1, f2, f3, f4⟩ := hxb.term.fits
  have HEI := Lib.hid ei
  have HXB := Lib.hid hxb
  have HCB := Lib.hid hcb
  have HD := Lib.hid hd
  have HPQ := Lib.hid hpq
  clear hxb hcb hk hd hpq
  have hm : ∀ n : Nat, argMost k x.op = n → Hid ((decide (0 ≤ x.arg) && decide (x.arg ≤ (n : Int) - 1)) = true) := by
    intro n hn
    rw [hn] at h2
    exact Bool.and_eq_true_iff.2 ⟨decide_eq_true h1, decide_eq_true (by omega)⟩
  have H19 := Lib.hid (show (decide (1 ≤ x.op) && decide (x.op ≤ 9)) = true from Bool.and_eq_true_iff.2 ⟨decide_eq_true (by omega), decide_eq_true (by omega)⟩)
  have hrl := readsF_len6 x.term
  have HT := Lib.hid (fun W (h : KidsAt W w.heap.size A2 x.term.kids) => termOk_s x.term A2 c2 W h HXB.out.term hL)
  have HR := Lib.hid (fun W (h : KidsAt W w.heap.size A2 x.term.kids) => readsOf_s x.term A2 c2 W h HXB.out.term hL)
  have HN1 := Lib.hid (show insS k a = (termOk 6 x.term && (readsOf x.term).all (fun s => decide (s ∈ k.globals)) && decide (x.to = 0)) from by
    rw [HN.out, insB, if_pos (by omega), if_neg (by omega), decide_eq_true (by omega), decide_eq_true (by omega), decide_eq_true h1, decide_eq_true h2]; simp)
  clear HN
  generalize termOk 6 x.term = z at HN1 HT
  generalize readsOf x.term = rs at HN1 HR hrl
  clear h1 h2
  have hone : True := trivial
  all_goals
    rw [hop] at hm
    have HM := hm _ rfl
    simp only [argMost] at HM
    clear hm
    first | simp only [Int.reduceEq, if_true] at HM | simp only [Int.reduceEq, if_false, or_self, or_true, true_or, or_false, false_or, if_true] at HM
    try simp only [Int.reduceEq, if_false, or_self, or_true, true_or, or_false, false_or, if_true] at HM
    have e1 : (x.op == 1) = true := by rw [hop]; rfl
    have e4 : (x.op == 4) = false := by rw [hop]; rfl
    have e5 : (x.op == 5) = false := by rw [hop]; rfl
    have e6 : (x.op == 6) = false := by rw [hop]; rfl
    have e7 : (x.op == 7) = false := by rw [hop]; rfl
    have e2 : (x.op == 2) = false := by rw [hop]; rfl
    have g2 : (x.op != 2) = true := by rw [hop]; rfl
    have g3 : (x.op != 3) = true := by rw [hop]; rfl
    rw [ei]
    clear ei hop
    go_enter Try.func109, Try.ntmps109
    go_wp2_with fail
    refine (l01In_any _ _ _ _).mono ?_
    rintro e w' ⟨rfl, rfl⟩
    rw [H19.out]
    go_wp2_with fail
    refine (l01In_any _ _ _ _).mono ?_
    rintro e w' ⟨rfl, rfl⟩
    first | rw [HM.out] | (have HM2 : (decide (0 ≤ x.arg) && decide (x.arg ≤ 0)) = true := (by have h := HM.out; rwa [show (((1 : Nat) : Int) - 1) = 0 from rfl] at h); rw [HM2])
    go_wp2_with fail
    rw [← HEI.out]
    have hbx := codeBox w v k
    have hix := insCells (w.alloc (.cells #[.slice v.gA k.globals.length v.gc, .slice v.lA k.locks.length v.lc, .slice v.pA k.procs.length v.pc, .slice v.eA k.entry.length v.ec, .slice v.iA k.ins.length v.ic] 33)) x A2 c2 (w.heap.size + 1) (by simp)
    have hbx := hbx.to (below_alloc0 _ (.cells #[.int .i64 x.op, .int .i64 x.arg, .int .i64 x.term.kind, .int .i64 x.term.num, .string x.term.name, .slice A2 x.term.kids.length c2, .int .i64 x.to] 57))
    generalize (w.alloc (.cells #[.slice v.gA k.globals.length v.gc, .slice v.lA k.locks.length v.lc, .slice v.pA k.procs.length v.pc, .slice v.eA k.entry.length v.ec, .slice v.iA k.ins.length v.ic] 33)).alloc (.cells #[.int .i64 x.op, .int .i64 x.arg, .int .i64 x.term.kind, .int .i64 x.term.num, .string x.term.name, .slice A2 x.term.kids.length c2, .int .i64 x.to] 57) = W at hbx hix ⊢
    obtain ⟨hb0, hs0, b0, b1, b2, b3, b4⟩ := id hbx
    obtain ⟨hs1, j0, j1, j2, j3, j4, j5, j6⟩ := id hix
    refine (HT.out _ (mk.below hb0)).mono ?_
    rintro r w2 ⟨rfl, hb2⟩
    have hb02 := below_trans' hb0 hb2
    have hbx2 := hbx.to hb2
    have hix2 := hix.to hb2
    cases z
    · go_wp2_with fail
      go_ret
      exact fin _ _ (by rw [HN1.out]; rfl) hb02
    obtain ⟨_, hsV, v0, v1, v2, v3, v4⟩ := id hbx2
    obtain ⟨hsV1, y0, y1, y2, y3, y4, y5, y6⟩ := id hix2
    go_wp2_with fail
    refine (HR.out _ (mk.below hb02)).mono ?_
    rintro r w3 ⟨A3, c3, rfl, ho3, hb3⟩
    have hb03 := below_trans' hb02 hb3
    have hbx3 := hbx2.to hb3
    have hix3 := hix2.to hb3
    have hr3 := own_rd ho3
    have hg3 := (hkf.below hb03).g
    obtain ⟨_, hsX, x0, x1, x2, x3, x4⟩ := id hbx3
    clear b0 b1 b2 b3 b4 j0 j1 j2 j3 j4 j5 j6 v0 v1 v2 v3 v4 y0 y1 y2 y3 y4 y5 y6
    go_wp2_with fail
    go_loopw [8] (fun i wr => ∃ q : Nat, q ≤ rs.length ∧ i = .int .i64 q ∧ (rs.take q).all (fun s => decide (s ∈ k.globals)) = true ∧ Drew w3 wr) (fun i _ => rs.length - (intOf i).toNat)
    case atStart => exact ⟨0, by omega, rfl, rfl, Drew.refl _⟩
    case round =>
      obtain ⟨q, hq, rfl, hall, hdr⟩ := hrel
      have HA := Lib.hid hall
      clear hall
      have hbxr := hbx3.to (hdr.below _)
      have hixr := hix3.to (hdr.below _)
      have hb0r := below_trans' hb03 (hdr.below _)
      obtain ⟨_, hsR, r0, r1, r2, r3, r4⟩ := id hbxr
      obtain ⟨hsR1, p0, p1, p2, p3, p4, p5, p6⟩ := id hixr
      by_cases hlt : q < rs.length
      · have hgr := hdr.rd hg3
        obtain ⟨ad, rfl, _, hc⟩ := (hdr.rd hr3).str hlt
        have HTK := Lib.hid (List.take_succ_eq_append_getElem hlt)
        have HMM := Lib.hid (List.getElem_mem hlt)
        have u1 : (0 : Int) ≤ (q : Int) := by omega
        have u2 : (q : Int) < (rs.length : Int) := by omega
        have HPL : Hid (decide (placeOf k.globals rs[q] < 0) = !decide (rs[q] ∈ k.globals)) := by
          by_cases hmm : rs[q] ∈ k.globals
          · rw [placeOf, if_pos hmm, decide_eq_true hmm, decide_eq_false (by omega)]; exact rfl
          · rw [placeOf, if_neg hmm, decide_eq_false hmm]; exact rfl
        have HC := Lib.hid (fun W (h : Rd W w.heap.size v.gA (k.globals.map sv)) => placeOf_s v.gA v.gc k.globals rs[q] W h (by omega))
        generalize placeOf k.globals rs[q] = pm at HPL HC
        cases hdm : decide (rs[q] ∈ k.globals)
        · have HDM := Lib.hid hdm
          have hpm : decide (pm < 0) = true := by rw [HPL.out, hdm]; rfl
          clear hdm
          go_wp2_with fail
          go_quiet ((go_at_call 129; exact quiet_left (HC.out _ hgr)))
          go_wp2_with fail
          go_ret
          have hf : rs.all (fun s => decide (s ∈ k.globals)) = false := List.all_eq_false.2 ⟨_, HMM.out, by rw [HDM.out]; simp⟩
          exact fin _ _ (by rw [HN1.out, hf]; simp) (below_drewN hb0r _)
        · have HDM := Lib.hid hdm
          have hpm : decide (pm < 0) = false := by rw [HPL.out, hdm]; rfl
          clear hdm
          go_wp2_with fail
          go_quiet ((go_at_call 129; exact quiet_left (HC.out _ hgr)))
          go_wp2_with fail
          go_roundw
          case rel => exact ⟨q + 1, by omega, by go_num, by rw [HTK.out, List.all_append, HA.out]; simp only [List.all_cons, List.all_nil, HDM.out, Bool.and_self], hdr.more _⟩
          case measure => simp [intOf]; omega
      · have hf : rs.all (fun s => decide (s ∈ k.globals)) = true := by have := HA.out; rwa [List.take_of_length_le (by omega)] at this
        have HF := Lib.hid hf
        clear hf
        go_wp2_with fail
        go_ret
        refine fin _ _ ?_ hb0r
        rw [HN1.out, HF.out, Bool.eq_iff_iff]
        simp

set_option maxHeartbeats 8000000 in
theorem l08Ins_test {B L : Nat} (v : CV) (k : Cd) (a : Nat) (w : World) (hk : CodeAt w B v k) (hcb : CdB L k) (hL : L ≤ 1099511627776) (hd : Head k) (ha : a < k.ins.length) (hop : k.ins[a].op = 2) (h1 : 0 ≤ k.ins[a].arg) (h2 : k.ins[a].arg < argMost k k.ins[a].op) :
    Calls Try.prog 109 #[.agg #[.slice v.gA k.globals.length v.gc, .slice v.lA k.locks.length v.lc, .slice v.pA k.procs.length v.pc, .slice v.eA k.entry.length v.ec, .slice v.iA k.ins.length v.ic], .int .i64 a] w fun r w' => r = .returned (.bool (insS k a)) ∧ Below w.heap.size w w' := by
  have hkf := hk.full
  have hil := hcb.ins
  have hgl := hcb.globals
  have hll := hcb.locks
  have hpl := hcb.procs
  have hel := hcb.entry
  have hxb := hcb.insB _ (List.getElem_mem ha)
  obtain ⟨hpq, hql⟩ := hd.proc a
  have fin : ∀ (y : Bool) w', y = insS k a → Below w.heap.size w w' → Ending.returned (.bool y) = .returned (.bool (insS k a)) ∧ Below w.heap.size w w' := fun y w' h1 h2 => ⟨by rw [h1], h2⟩
  have HN := Lib.hid (show insS k a = insB k k.ins[a] (entryAt k (procN k a)) (endP k (procN k a)) from by rw [insS, insBat, List.getElem?_eq_getElem ha])
  obtain ⟨ai, A2, c2, ei, hbi, m0, m1, m2, m3, m4, m5, m6, mk⟩ := hkf.i.get ha
  generalize k.ins[a] = x at *
  obtain ⟨f1, f2, f3, f4⟩ := hxb.term.fits
  have HEI := Lib.hid ei
  have HXB := Lib.hid hxb
  have HCB := Lib.hid hcb
  have HD := Lib.hid hd
  have HPQ := Lib.hid hpq
  clear hxb hcb hk hd hpq
  have hm : ∀ n : Nat, argMost k x.op = n → Hid ((decide (0 ≤ x.arg) && decide (x.arg ≤ (n : Int) - 1)) = true) := by
    intro n hn
    rw [hn] at h2
    exact Bool.and_eq_true_iff.2 ⟨decide_eq_true h1, decide_eq_true (by omega)⟩
  have H19 := Lib.hid (show (decide (1 ≤ x.op) && decide (x.op ≤ 9)) = true from Bool.and_eq_true_iff.2 ⟨decide_eq_true (by omega), decide_eq_true (by omega)⟩)
  have hrl := readsF_len6 x.term
  have HT := Lib.hid (fun W (h : KidsAt W w.heap.size A2 x.term.kids) => termOk_s x.term A2 c2 W h HXB.out.term hL)
  have HR := Lib.hid (fun W (h : KidsAt W w.heap.size A2 x.term.kids) => readsOf_s x.term A2 c2 W h HXB.out.term hL)
  have HN1 := Lib.hid (show insS k a = (termOk 6 x.term && (readsOf x.term).all (fun s => decide (s ∈ k.globals)) && (decide (entryAt k (procN k a) ≤ x.to) && decide (x.to < endP k (procN k a)))) from by
    rw [HN.out, insB, if_pos (by omega), if_pos (by omega), decide_eq_true (by omega), decide_eq_true (by omega), decide_eq_true h1, decide_eq_true h2]; simp)
  clear HN
  generalize termOk 6 x.term = z at HN1 HT
  generalize readsOf x.term = rs at HN1 HR hrl
  clear h1 h2
  have hone : True := trivial
  all_goals
    rw [hop] at hm
    have HM := hm _ rfl
    simp only [argMost] at HM
    clear hm
    first | simp only [Int.reduceEq, if_true] at HM | simp only [Int.reduceEq, if_false, or_self, or_true, true_or, or_false, false_or, if_true] at HM
    try simp only [Int.reduceEq, if_false, or_self, or_true, true_or, or_false, false_or, if_true] at HM
    have e1 : (x.op == 1) = false := by rw [hop]; rfl
    have e4 : (x.op == 4) = false := by rw [hop]; rfl
    have e5 : (x.op == 5) = false := by rw [hop]; rfl
    have e6 : (x.op == 6) = false := by rw [hop]; rfl
    have e7 : (x.op == 7) = false := by rw [hop]; rfl
    have e2 : (x.op == 2) = true := by rw [hop]; rfl
    have g2 : (x.op != 2) = false := by rw [hop]; rfl
    have g3 : (x.op != 3) = true := by rw [hop]; rfl
    rw [ei]
    clear ei hop
    go_enter Try.func109, Try.ntmps109
    go_wp2_with fail
    refine (l01In_any _ _ _ _).mono ?_
    rintro e w' ⟨rfl, rfl⟩
    rw [H19.out]
    go_wp2_with fail
    refine (l01In_any _ _ _ _).mono ?_
    rintro e w' ⟨rfl, rfl⟩
    first | rw [HM.out] | (have HM2 : (decide (0 ≤ x.arg) && decide (x.arg ≤ 0)) = true := (by have h := HM.out; rwa [show (((1 : Nat) : Int) - 1) = 0 from rfl] at h); rw [HM2])
    go_wp2_with fail
    rw [← HEI.out]
    have hbx := codeBox w v k
    have hix := insCells (w.alloc (.cells #[.slice v.gA k.globals.length v.gc, .slice v.lA k.locks.length v.lc, .slice v.pA k.procs.length v.pc, .slice v.eA k.entry.length v.ec, .slice v.iA k.ins.length v.ic] 33)) x A2 c2 (w.heap.size + 1) (by simp)
    have hbx := hbx.to (below_alloc0 _ (.cells #[.int .i64 x.op, .int .i64 x.arg, .int .i64 x.term.kind, .int .i64 x.term.num, .string x.term.name, .slice A2 x.term.kids.length c2, .int .i64 x.to] 57))
    generalize (w.alloc (.cells #[.slice v.gA k.globals.length v.gc, .slice v.lA k.locks.length v.lc, .slice v.pA k.procs.length v.pc, .slice v.eA k.entry.length v.ec, .slice v.iA k.ins.length v.ic] 33)).alloc (.cells #[.int .i64 x.op, .int .i64 x.arg, .int .i64 x.term.kind, .int .i64 x.term.num, .string x.term.name, .slice A2 x.term.kids.length c2, .int .i64 x.to] 57) = W at hbx hix ⊢
    obtain ⟨hb0, hs0, b0, b1, b2, b3, b4⟩ := id hbx
    obtain ⟨hs1, j0, j1, j2, j3, j4, j5, j6⟩ := id hix
    refine (HT.out _ (mk.below hb0)).mono ?_
    rintro r w2 ⟨rfl, hb2⟩
    have hb02 := below_trans' hb0 hb2
    have hbx2 := hbx.to hb2
    have hix2 := hix.to hb2
    cases z
    · go_wp2_with fail
      go_ret
      exact fin _ _ (by rw [HN1.out]; rfl) hb02
    obtain ⟨_, hsV, v0, v1, v2, v3, v4⟩ := id hbx2
    obtain ⟨hsV1, y0, y1, y2, y3, y4, y5, y6⟩ := id hix2
    go_wp2_with fail
    refine (HR.out _ (mk.below hb02)).mono ?_
    rintro r w3 ⟨A3, c3, rfl, ho3, hb3⟩
    have hb03 := below_trans' hb02 hb3
    have hbx3 := hbx2.to hb3
    have hix3 := hix2.to hb3
    have hr3 := own_rd ho3
    have hg3 := (hkf.below hb03).g
    obtain ⟨_, hsX, x0, x1, x2, x3, x4⟩ := id hbx3
    clear b0 b1 b2 b3 b4 j0 j1 j2 j3 j4 j5 j6 v0 v1 v2 v3 v4 y0 y1 y2 y3 y4 y5 y6
    go_wp2_with fail
    go_loopw [8] (fun i wr => ∃ q : Nat, q ≤ rs.length ∧ i = .int .i64 q ∧ (rs.take q).all (fun s => decide (s ∈ k.globals)) = true ∧ Drew w3 wr) (fun i _ => rs.length - (intOf i).toNat)
    case atStart => exact ⟨0, by omega, rfl, rfl, Drew.refl _⟩
    case round =>
      obtain ⟨q, hq, rfl, hall, hdr⟩ := hrel
      have HA := Lib.hid hall
      clear hall
      have hbxr := hbx3.to (hdr.below _)
      have hixr := hix3.to (hdr.below _)
      have hb0r := below_trans' hb03 (hdr.below _)
      obtain ⟨_, hsR, r0, r1, r2, r3, r4⟩ := id hbxr
      obtain ⟨hsR1, p0, p1, p2, p3, p4, p5, p6⟩ := id hixr
      by_cases hlt : q < rs.length
      · have hgr := hdr.rd hg3
        obtain ⟨ad, rfl, _, hc⟩ := (hdr.rd hr3).str hlt
        have HTK := Lib.hid (List.take_succ_eq_append_getElem hlt)
        have HMM := Lib.hid (List.getElem_mem hlt)
        have u1 : (0 : Int) ≤ (q : Int) := by omega
        have u2 : (q : Int) < (rs.length : Int) := by omega
        have HPL : Hid (decide (placeOf k.globals rs[q] < 0) = !decide (rs[q] ∈ k.globals)) := by
          by_cases hmm : rs[q] ∈ k.globals
          · rw [placeOf, if_pos hmm, decide_eq_true hmm, decide_eq_false (by omega)]; exact rfl
          · rw [placeOf, if_neg hmm, decide_eq_false hmm]; exact rfl
        have HC := Lib.hid (fun W (h : Rd W w.heap.size v.gA (k.globals.map sv)) => placeOf_s v.gA v.gc k.globals rs[q] W h (by omega))
        generalize placeOf k.globals rs[q] = pm at HPL HC
        cases hdm : decide (rs[q] ∈ k.globals)
        · have HDM := Lib.hid hdm
          have hpm : decide (pm < 0) = true := by rw [HPL.out, hdm]; rfl
          clear hdm
          go_wp2_with fail
          go_quiet ((go_at_call 129; exact quiet_left (HC.out _ hgr)))
          go_wp2_with fail
          go_ret
          have hf : rs.all (fun s => decide (s ∈ k.globals)) = false := List.all_eq_false.2 ⟨_, HMM.out, by rw [HDM.out]; simp⟩
          exact fin _ _ (by rw [HN1.out, hf]; simp) (below_drewN hb0r _)
        · have HDM := Lib.hid hdm
          have hpm : decide (pm < 0) = false := by rw [HPL.out, hdm]; rfl
          clear hdm
          go_wp2_with fail
          go_quiet ((go_at_call 129; exact quiet_left (HC.out _ hgr)))
          go_wp2_with fail
          go_roundw
          case rel => exact ⟨q + 1, by omega, by go_num, by rw [HTK.out, List.all_append, HA.out]; simp only [List.all_cons, List.all_nil, HDM.out, Bool.and_self], hdr.more _⟩
          case measure => simp [intOf]; omega
      · have hf : rs.all (fun s => decide (s ∈ k.globals)) = true := by have := HA.out; rwa [List.take_of_length_le (by omega)] at this
        have HF := Lib.hid hf
        clear hf
        have HN2 := Lib.hid (show insS k a = (decide (entryAt k (procN k a) ≤ x.to) && decide (x.to < endP k (procN k a))) from by rw [HN1.out, HF.out]; simp)
        clear HN1 HF
        clear r0 r1 r2 r3 r4 p0 p1 p2 p3 p4 p5 p6 x0 x1 x2 x3 x4
        have hkT := hkf.below hb0r
        obtain ⟨hbT, hsT, u0, u1, u2, u3, u4⟩ := id hbxr
        obtain ⟨hsT1, i0, i1, i2, i3, i4, i5, i6⟩ := id hixr
        go_wp2_with fail
        refine (l08Proc_any v k a _ hkT (by omega) (by omega)).mono ?_
        rintro r W3 ⟨rfl, hbp⟩
        rw [HPQ.out]
        have hb3 := below_trans' hb0r hbp
        have hbx3 := CodeBox.to hbxr hbp
        have hix3 := InsCells.to hixr hbp
        obtain ⟨_, hsV, v0, v1, v2, v3, v4⟩ := id hbx3
        obtain ⟨hsV1, y0, y1, y2, y3, y4, y5, y6⟩ := id hix3
        have hk3 := hkf.below hb3
        obtain ⟨ae, ee, hbe, hce⟩ := hk3.e.int hql
        rw [← entryAt_eq k _ hql] at hce
        have hbe' : (ae.add (procN k a)).block < W3.heap.size := by rw [block_of_add]; omega
        have HPE := fun W (h : CodeAt W w.heap.size v k) => l08End_any v k (procN k a) W h HCB.out hL (by omega) (fun hh => HD.out.nn _ hh)
        rw [ee] at HPE v3 ⊢
        clear ee
        have HPE := Lib.hid HPE
        generalize procN k a = q at *
        generalize entryAt k q = E at *
        generalize endP k q = F at *
        have z1 : (0 : Int) ≤ (q : Int) := by omega
        have z2 : (q : Int) < (k.entry.length : Int) := by omega
        go_wp2_with fail
        go_region_held3 (fun w' => Below W3.heap.size W3 w' ∧ CodeAt w' w.heap.size v k ∧ w'.cell? ⟨w.heap.size, 0, none⟩ = some (.slice v.gA k.globals.length v.gc) ∧ w'.cell? ⟨w.heap.size, 1, none⟩ = some (.slice v.lA k.locks.length v.lc) ∧
            w'.cell? ⟨w.heap.size, 2, none⟩ = some (.slice v.pA k.procs.length v.pc) ∧ w'.cell? ⟨w.heap.size, 3, none⟩ = some (.slice (some ae) k.entry.length v.ec) ∧ w'.cell? ⟨w.heap.size, 4, none⟩ = some (.slice v.iA k.ins.length v.ic) ∧
            w'.cell? ⟨w.heap.size + 1, 6, none⟩ = some (.int .i64 x.to) ∧ w'.cell? (ae.add q) = some (.int .i64 E))
          (first | exact ⟨(Below.refl _ _).drew, hk3.below ((Below.refl _ _).drew), v0, v1, v2, v3, v4, y6, hce⟩ | assumption | (go_split_ands; refine ⟨below_trans' (by assumption) hb1, CodeAt.below (by assumption) (hb1.mono (by have := Below.size (by assumption : Below W3.heap.size W3 _); omega)), ?_, ?_, ?_, ?_, ?_, ?_, ?_⟩ <;> exact cell_below hb1 (by assumption)))
          (first | (go_at_call 95; go_split_ands; refine (HPE.out _ (by assumption)).mono ?_; rintro e w1 ⟨rfl, hb1⟩) | (go_at_call 88; refine (l01In_any _ _ _ _).mono ?_; rintro e w1 ⟨rfl, rfl⟩))
        rename_i W4 _ hS
        have hbS := hS.1
        clear hS
        go_wp2_with fail
        go_ret
        refine fin _ _ ?_ (below_trans' hb3 hbS)
        rw [HN2.out]
        congr 1
        rw [Bool.eq_iff_iff, decide_eq_true_eq, decide_eq_true_eq]
        omega

theorem l08Ins_any {B L : Nat} (v : CV) (k : Cd) (a : Nat) (w : World) (hk : CodeAt w B v k) (hcb : CdB L k) (hL : L ≤ 1099511627776) (hd : Head k) (ha : a < k.ins.length) :
    Calls Try.prog 109 #[.agg #[.slice v.gA k.globals.length v.gc, .slice v.lA k.locks.length v.lc, .slice v.pA k.procs.length v.pc, .slice v.eA k.entry.length v.ec, .slice v.iA k.ins.length v.ic], .int .i64 a] w fun r w' => r = .returned (.bool (insS k a)) ∧ Below w.heap.size w w' := by
  have hx : insS k a = insB k k.ins[a] (entryAt k (procN k a)) (endP k (procN k a)) := by rw [insS, insBat, List.getElem?_eq_getElem ha]
  by_cases h1 : 1 ≤ k.ins[a].op ∧ k.ins[a].op ≤ 9
  · by_cases h2 : 0 ≤ k.ins[a].arg ∧ k.ins[a].arg < argMost k k.ins[a].op
    · by_cases o1 : k.ins[a].op = 1
      · exact l08Ins_set v k a w hk hcb hL hd ha o1 h2.1 h2.2
      · by_cases o2 : k.ins[a].op = 2
        · exact l08Ins_test v k a w hk hcb hL hd ha o2 h2.1 h2.2
        · by_cases o3 : k.ins[a].op = 3
          · exact l08Ins_jump v k a w hk hcb hL hd ha o3 h2.1 h2.2
          · exact l08Ins_zero v k a w hk hcb hL hd ha (by omega) h1.2 h2.1 h2.2
    · refine (l08Ins_arg v k a w hk hcb hL ha h1.1 h1.2 h2).mono fun r w' ⟨hr, hw⟩ => ⟨?_, hw⟩
      have : insS k a = false := by
        rw [hx, insB]
        by_cases h3 : 0 ≤ k.ins[a].arg
        · rw [decide_eq_false (show ¬ k.ins[a].arg < argMost k k.ins[a].op from fun h4 => h2 ⟨h3, h4⟩)]; simp
        · rw [decide_eq_false h3]; simp
      rw [hr, this]
  · refine (l08Ins_bad v k a w hk hcb hL ha h1).mono fun r w' ⟨hr, hw⟩ => ⟨?_, hw⟩
    have : insS k a = false := by
      rw [hx, insB]
      by_cases h3 : 1 ≤ k.ins[a].op
      · rw [decide_eq_false (show ¬ k.ins[a].op ≤ 9 from fun h4 => h1 ⟨h3, h4⟩)]; simp
      · rw [decide_eq_false h3]; simp
    rw [hr, this]

/-- What the reference's CodeOk answers. -/
def codeOkS (k : Cd) : Bool := headsB k && (List.range k.ins.length).all (insS k)

set_option maxHeartbeats 2000000 in
theorem codeOk_s {B L : Nat} (v : CV) (k : Cd) (w : World) (hk : CodeAt w B v k) (hcb : CdB L k) (hL : L ≤ 1099511627776) :
    Calls Try.prog 71 #[.agg #[.slice v.gA k.globals.length v.gc, .slice v.lA k.locks.length v.lc, .slice v.pA k.procs.length v.pc, .slice v.eA k.entry.length v.ec, .slice v.iA k.ins.length v.ic]] w fun r w' => r = .returned (.bool (codeOkS k)) ∧ Below w.heap.size w w' := by
  have hkf := hk.full
  have fin : ∀ (y : Bool) w', y = codeOkS k → Below w.heap.size w w' → Ending.returned (.bool y) = .returned (.bool (codeOkS k)) ∧ Below w.heap.size w w' := fun y w' h1 h2 => ⟨by rw [h1], h2⟩
  have HO := Lib.hid (show codeOkS k = (headsB k && (List.range k.ins.length).all (insS k)) from rfl)
  have HCB := Lib.hid hcb
  have hil := hcb.ins
  clear hcb hk
  have hbx := codeBox w v k
  go_enter Try.func71, Try.ntmps71
  go_wp2_with fail
  generalize w.alloc (.cells #[.slice v.gA k.globals.length v.gc, .slice v.lA k.locks.length v.lc, .slice v.pA k.procs.length v.pc, .slice v.eA k.entry.length v.ec, .slice v.iA k.ins.length v.ic] 33) = W at hbx ⊢
  obtain ⟨hb0, hs0, b0, b1, b2, b3, b4⟩ := id hbx
  refine (l08Heads_any v k _ (hkf.below hb0) HCB.out hL).mono ?_
  rintro r w1 ⟨rfl, hb1⟩
  have hbx1 := hbx.to hb1
  obtain ⟨hb01, hs1, c0, c1, c2, c3, c4⟩ := id hbx1
  cases hh : headsB k
  · have HH := Lib.hid hh
    clear hh
    go_wp2_with fail
    go_ret
    exact fin _ _ (by rw [HO.out, HH.out]; rfl) hb01
  have HH := Lib.hid hh
  have HD := Lib.hid (head_of hh)
  clear hh
  go_wp2_with fail
  go_loopw [3] (fun i wr => ∃ n : Nat, n ≤ k.ins.length ∧ i = .int .i64 n ∧ (List.range n).all (insS k) = true ∧ Below w1.heap.size w1 wr) (fun i _ => k.ins.length - (intOf i).toNat)
  case atStart => exact ⟨0, by omega, rfl, rfl, Below.refl _ _⟩
  case round =>
    obtain ⟨n, hn, rfl, hall, hbr⟩ := hrel
    have HALL := Lib.hid hall
    clear hall
    have hbxr := hbx1.to hbr
    obtain ⟨hb0r, hsr, r0, r1, r2, r3, r4⟩ := id hbxr
    by_cases hlt : n < k.ins.length
    · have HI := Lib.hid (l08Ins_any v k n wr (hkf.below hb0r) HCB.out hL HD.out hlt)
      cases hi : insS k n
      · have HII := Lib.hid hi
        rw [hi] at HI
        clear hi
        go_wp2_with fail
        refine HI.out.mono ?_
        rintro r w2 ⟨rfl, hb2⟩
        go_wp2_with fail
        go_ret
        exact fin _ _ (by rw [HO.out, all_range_false hlt HII.out]; simp) (below_trans' hb0r hb2)
      · have HII := Lib.hid hi
        rw [hi] at HI
        clear hi
        go_wp2_with fail
        refine HI.out.mono ?_
        rintro r w2 ⟨rfl, hb2⟩
        go_wp2_with fail
        go_roundw
        case rel => exact ⟨n + 1, by omega, by go_num, by rw [all_range_succ, HALL.out, HII.out]; rfl, below_trans' hbr hb2⟩
        case measure => simp [intOf]; omega
    · go_wp2_with fail
      go_ret
      obtain rfl : n = k.ins.length := by omega
      exact fin _ _ (by rw [HO.out, HH.out, HALL.out]; rfl) hb0r
end Go.Proofs.Ytjnlmiekldflhaa
