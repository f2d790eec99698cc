/- Contract of the program's CodeOk. -/
import Derived.Test.YtjnlmiekldflhaaEntr
set_option linter.unusedSimpArgs false
set_option linter.unusedVariables false
namespace Go.Proofs.Ytjnlmiekldflhaa
open Go.ChangeShapes Go.WideShapes Go.ChangeAt Go.RowKit

def insBat (k : Cd) (a : Nat) (b e : Int) : Bool := match k.ins[a]? with | some x => insB k x b e | none => false
def partB (k : Cd) (p : Nat) : Bool := (List.range (endP k p - entryAt k p).toNat).all fun j => insBat k ((entryAt k p).toNat + j) (entryAt k p) (endP k p)
/-- What the program's CodeOk answers. -/
def codeOkI (k : Cd) : Bool := namesB k && (entriesB k && (List.range k.entry.length).all (partB k))

theorem entriesB_parts {k : Cd} (h : entriesB k = true) : k.ins.length ≤ 1500 ∧ k.entry.length = k.procs.length ∧ entryAt k 0 = 0 ∧ endsTo k k.ins.length = k.entry.length ∧ ∀ i, i < k.entry.length → rowB k i = true := by
  simp only [entriesB, Bool.and_eq_true, decide_eq_true_eq, List.all_eq_true, List.mem_range] at h
  exact ⟨h.1, h.2.1, h.2.2.1, h.2.2.2.1, h.2.2.2.2⟩
theorem rowB_parts {k : Cd} {i : Nat} (h : rowB k i = true) : entryAt k i < endP k i ∧ endP k i ≤ k.ins.length ∧ opAt k (endP k i - 1) = 9 := by
  simp only [rowB, Bool.and_eq_true, Bool.not_eq_true', decide_eq_false_iff_not, decide_eq_true_eq] at h
  exact ⟨by omega, by omega, h.2.2⟩
theorem entries_nonneg {k : Cd} (h : entriesB k = true) (i : Nat) (hi : i < k.entry.length) : 0 ≤ entryAt k i := by
  obtain ⟨_, _, h0, _, hr⟩ := entriesB_parts h
  induction i with
  | zero => rw [h0]; exact Int.le_refl 0
  | succ i ih =>
    have h1 := ih (by omega)
    have h2 := (rowB_parts (hr i (by omega))).1
    rw [endP, dif_pos hi] at h2
    rw [entryAt_eq k (i + 1) hi]
    omega
theorem names_proc {k : Cd} (h : namesB k = true) : 1 ≤ k.procs.length := by
  simp only [namesB, Bool.and_eq_true, decide_eq_true_eq] at h
  have hm := h.2.2.2.2.2.2
  cases hp : k.procs with
  | nil => rw [hp] at hm; simp at hm
  | cons a l => simp

set_option maxHeartbeats 4000000 in
theorem codeOk_i {B L : Nat} (v : CV) (k : Cd) (w : World) (hk : CodeAt w B v k) (hcb : CdB L k) (hL : L ≤ 1099511627776) :
    Calls Try.prog 66 #[.agg #[.slice v.gA k.globals.length v.gc, .slice v.lA k.locks.length v.lc, .slice v.pA k.procs.length v.pc, .slice v.eA k.entry.length v.ec, .slice v.iA k.ins.length v.ic]] w fun r w' => r = .returned (.bool (codeOkI k)) ∧ Below w.heap.size w w' := by
  have hkf := hk.full
  have HN := Lib.hid (fun W (h : CodeAt W w.heap.size v k) => namesRight_any v k W h hcb hL)
  have HE := Lib.hid (fun (h1 : namesB k = true) W (h : CodeAt W w.heap.size v k) => entriesRight_any v k W h hcb hL (names_proc h1))
  have HO := Lib.hid (show codeOkI k = (namesB k && (entriesB k && (List.range k.entry.length).all (partB k))) from rfl)
  have HEP := Lib.hid (fun (p : Nat) (hp : p < k.entry.length) W (h : CodeAt W w.heap.size v k) => endOfProc_any v k p W h (by have := hcb.entry; omega) (by have := hcb.entry; omega) (by have := hcb.ins; omega))
  have fin : ∀ (y : Bool) w', y = codeOkI k → Below w.heap.size w w' → Ending.returned (.bool y) = .returned (.bool (codeOkI k)) ∧ Below w.heap.size w w' := fun y w' h1 h2 => ⟨by rw [h1], h2⟩
  have HCB := Lib.hid hcb
  have hil := hk.il
  have helb := hcb.entry
  clear hcb
  go_enter Try.func66, Try.ntmps66
  go_wp2_with fail
  have hbx := codeBox w v k
  generalize w.alloc (.cells #[.slice v.gA k.globals.length v.gc, .slice v.lA k.locks.length v.lc, .slice v.pA k.procs.length v.pc, .slice v.eA k.entry.length v.ec, .slice v.iA k.ins.length v.ic] 33) = W at hbx ⊢
  obtain ⟨hb0, hs0, b0, b1, b2, b3, b4⟩ := id hbx
  refine (HN.out _ (hkf.below hb0)).mono ?_
  rintro r w1 ⟨rfl, hb1⟩
  have hbx1 := hbx.to hb1
  obtain ⟨hb01, hs1, b0, b1, b2, b3, b4⟩ := id hbx1
  cases hnm : namesB k
  · have HNM := Lib.hid hnm
    clear hnm
    go_wp2_with fail
    go_ret
    exact fin _ _ (by rw [HO.out, HNM.out]; rfl) hb01
  have HNM := Lib.hid hnm
  clear hnm
  go_wp2_with fail
  refine (HE.out HNM.out _ (hkf.below hb01)).mono ?_
  rintro r w2 ⟨rfl, hb2⟩
  have hbx2 := hbx1.to hb2
  obtain ⟨hb02, hs2, b0, b1, b2, b3, b4⟩ := id hbx2
  cases hem : entriesB k
  · have HEM := Lib.hid hem
    clear hem
    go_wp2_with fail
    go_ret
    exact fin _ _ (by rw [HO.out, HEM.out]; simp) hb02
  have HEM := Lib.hid hem
  clear hem
  have hn1500 := (entriesB_parts HEM.out).1
  go_wp2_with fail
  go_loopw [19] (fun i wr => ∃ p : Nat, p ≤ k.entry.length ∧ i = .int .i64 p ∧ (List.range p).all (partB k) = true ∧ Below w2.heap.size w2 wr) (fun i _ => k.entry.length - (intOf i).toNat)
  case atStart => exact ⟨0, by omega, rfl, rfl, Below.refl _ _⟩
  case round =>
    obtain ⟨p, hp, rfl, hall, hbr⟩ := hrel
    have HALL := Lib.hid hall
    clear hall
    have hbxr := hbx2.to hbr
    obtain ⟨hb0r, hsr, r0, r1, r2, r3, r4⟩ := id hbxr
    by_cases hlt : p < k.entry.length
    · have hkr := hkf.below hb0r
      obtain ⟨ae, ee, hbe, hce⟩ := hkr.e.int hlt
      have hbe' : (ae.add p).block < wr.heap.size := by rw [block_of_add]; omega
      obtain ⟨a, ha⟩ := Int.eq_ofNat_of_zero_le (entries_nonneg HEM.out p hlt)
      have hrow := rowB_parts ((entriesB_parts HEM.out).2.2.2.2 p hlt)
      obtain ⟨f, hf⟩ : ∃ f : Nat, endP k p = f := ⟨(endP k p).toNat, by omega⟩
      have hPB : partB k p = (List.range (f - a)).all fun j => insBat k (a + j) a f := by
        rw [partB, ha, hf, Int.toNat_natCast, show ((f : Int) - (a : Int)).toNat = f - a from by omega]
      rw [ha, hf] at hrow
      have hab : a < f := by omega
      have hfn : f ≤ k.ins.length := by omega
      rw [← entryAt_eq k p hlt, ha] at hce
      have HF := Lib.hid hf
      have HPB := Lib.hid hPB
      have HEE := Lib.hid ee
      rw [ee] at r3 ⊢
      clear ha hrow hf hPB ee
      go_wp2_with fail
      rw [← HEE.out] at r3 ⊢
      refine (HEP.out p hlt _ hkr).mono ?_
      rintro r w3 ⟨rfl, hb3⟩
      rw [HF.out]
      have hbx3 := hbxr.to hb3
      obtain ⟨hb03, hs3, s0, s1, s2, s3, s4⟩ := id hbx3
      have hkw3 := hkf.below hb03
      obtain ⟨ai, A', c', ei, hbi, _⟩ := hkw3.i.get (i := a) (by omega)
      have HEI := Lib.hid ei
      rw [ei] at s4 ⊢
      clear ei
      have u1 : (0 : Int) ≤ (a : Int) := by omega
      have u2 : (a : Int) ≤ (f : Int) := by omega
      have u3 : (f : Int) ≤ (v.ic : Int) := by omega
      go_wp2_with fail
      rw [← HEI.out] at s4 ⊢
      obtain ⟨wo, rfl⟩ : ∃ wo : World, wo = wr := ⟨_, rfl⟩
      go_loopw [33] (fun i wr => ∃ j : Nat, j ≤ f - a ∧ i = .int .i64 j ∧ (List.range j).all (fun j => insBat k (a + j) a f) = true ∧ Below w3.heap.size w3 wr) (fun i _ => (f - a) - (intOf i).toNat)
      case atStart => exact ⟨0, by omega, rfl, rfl, Below.refl _ _⟩
      case round =>
        obtain ⟨j, hj, rfl, hallj, hbj⟩ := hrel
        have HALJ := Lib.hid hallj
        clear hallj
        have hbxj := hbx3.to hbj
        obtain ⟨hb0j, hsj, t0, t1, t2, t3, t4⟩ := id hbxj
        by_cases hjl : j < f - a
        · have hkj := hkf.below hb0j
          have haj : a + j < k.ins.length := by omega
          obtain ⟨ai', A2, c2, ei', hbi', m0, m1, m2, m3, m4, m5, m6, mk⟩ := hkj.i.get haj
          obtain rfl : ai = ai' := by rw [HEI.out] at ei'; injection ei'
          have heq : ai.add ((a + j) * 7) = (ai.add (a * 7)).add (j * 7) := by rw [add_of_add, Nat.add_mul]
          rw [heq] at hbi' m0 m1 m2 m3 m4 m5 m6
          have hbi2 : ((ai.add (a * 7)).add (j * 7)).block < wr.heap.size := by omega
          have HX := Lib.hid (HCB.out.insB _ (List.getElem_mem haj))
          have HXE := Lib.hid (show insBat k (a + j) a f = insB k k.ins[a + j] a f from by rw [insBat, List.getElem?_eq_getElem haj])
          clear heq ei'
          generalize k.ins[a + j] = x at *
          cases hxb : insB k x a f
          · have HXB := Lib.hid hxb
            clear hxb
            go_wp2_with fail
            have := insRight_any v k x A2 c2 a f (wr.alloc (.cells #[.int .i64 x.op, .int .i64 x.arg, .int .i64 x.term.kind, .int .i64 x.term.num, .string x.term.name, .slice A2 x.term.kids.length c2, .int .i64 x.to] 57)) (hkj.g.full.below (below_alloc0 _ _)) (by have := HCB.out.globals; omega) (mk.full.below (below_alloc0 _ _)) HX.out hL
            refine this.mono ?_
            clear this
            rintro r w4 ⟨rfl, hb4⟩
            rw [HXB.out]
            go_wp2_with fail
            go_ret
            have hpf : partB k p = false := by rw [HPB.out]; exact all_range_false hjl (by rw [HXE.out, HXB.out])
            exact fin _ _ (by rw [HO.out, all_range_false hlt hpf]; simp) (below_trans' (below_alloc hb0j (Nat.le_refl _) _) hb4)
          · have HXB := Lib.hid hxb
            clear hxb
            go_wp2_with fail
            have := insRight_any v k x A2 c2 a f (wr.alloc (.cells #[.int .i64 x.op, .int .i64 x.arg, .int .i64 x.term.kind, .int .i64 x.term.num, .string x.term.name, .slice A2 x.term.kids.length c2, .int .i64 x.to] 57)) (hkj.g.full.below (below_alloc0 _ _)) (by have := HCB.out.globals; omega) (mk.full.below (below_alloc0 _ _)) HX.out hL
            refine this.mono ?_
            clear this
            rintro r w4 ⟨rfl, hb4⟩
            rw [HXB.out]
            go_wp2_with fail
            go_roundw
            case rel => exact ⟨j + 1, by omega, by go_num, by rw [all_range_succ, HALJ.out, HXE.out, HXB.out]; rfl, below_trans' (below_alloc hbj (Nat.le_refl _) _) hb4⟩
            case measure => simp [intOf]; omega
        · go_wp2_with fail
          rw [HEE.out]
          go_roundw
          case rel => exact ⟨p + 1, by omega, by go_num, by
            obtain rfl : j = f - a := by omega
            rw [all_range_succ, HALL.out, HPB.out, HALJ.out]; rfl, below_trans' (below_trans' hbr hb3) hbj⟩
          case measure => simp [intOf]; omega
    · go_wp2_with fail
      go_ret
      obtain rfl : p = k.entry.length := by omega
      exact fin _ _ (by rw [HO.out, HNM.out, HEM.out, HALL.out]; rfl) hb0r
end Go.Proofs.Ytjnlmiekldflhaa
