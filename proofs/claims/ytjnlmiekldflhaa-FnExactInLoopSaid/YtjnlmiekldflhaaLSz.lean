/- Contracts of szIns, szInsS, szCode. -/
import Derived.Test.YtjnlmiekldflhaaLStr
import Derived.Test.YtjnlmiekldflhaaBox
set_option linter.unusedSimpArgs false
set_option linter.unusedVariables false
namespace Go.Proofs.Ytjnlmiekldflhaa
open Go.ChangeShapes Go.WideShapes Go.ChangeAt Go.RowKit

theorem szIns_any {B : Nat} (x : Is) (A : Option Addr) (c left : Nat) (w : World) (hk : KidsAt w B A x.term.kids) (hb : IsB 9223372036854775807 x) (hl : left ≤ 1048576) :
    Calls Try.prog 98 #[.agg #[.int .i64 x.op, .int .i64 x.arg, .int .i64 x.term.kind, .int .i64 x.term.num, .string x.term.name, .slice A x.term.kids.length c, .int .i64 x.to], .int .i64 left] w (Szd w left fun r => r + x.term.cnt ≤ left ∧ IsB 1048576 x) := by
  have HS := Lib.hid (fun W (h : KidsAt W W.heap.size A x.term.kids) => szTerm_any x.term _ A c left W h hb.term hl)
  have HT := Lib.hid (show TmB 1048576 x.term → IsB 1048576 x from fun h => ⟨hb.op, hb.arg, h, hb.to⟩)
  clear hb
  go_enter Try.func98, Try.ntmps98
  go_wp2_with fail
  refine (HS.out _ (hk.full.below (below_alloc0 _ _)).full).mono ?_
  rintro e w' ⟨hb1, rfl | ⟨r', rfl, hr', hcn, hok⟩⟩
  · go_wp2_with fail
    go_ret
    exact ⟨below_trans' (below_alloc0 _ _) hb1, .inl rfl⟩
  · have hnn : ¬ ((r' : Int) < 0) := by omega
    go_wp2_with fail
    go_ret
    exact ⟨below_trans' (below_alloc0 _ _) hb1, .inr ⟨r', rfl, by omega, hcn, HT.out hok⟩⟩

theorem szInsS_any {B : Nat} (A : Option Addr) (c left : Nat) (ins : List Is) (w : World) (hk : InsAt w B A ins) (hn : ins.length ≤ 9223372036854775807) (hb : ∀ x ∈ ins, IsB 9223372036854775807 x) (hl : left ≤ 1048576) :
    Calls Try.prog 54 #[.slice A ins.length c, .int .i64 left] w (Szd w left fun r => r + insCnt ins ≤ left ∧ ∀ x ∈ ins, IsB 1048576 x) := by
  have HB := Lib.hid hb
  clear hb
  go_enter Try.func54, Try.ntmps54
  by_cases hle : ins.length ≤ left
  · have hle' : ¬ ((left : Int) - ins.length < 0) := by omega
    go_wp2
    go_loopw [1, 5] (fun q i wr => ∃ (j r : Nat), j ≤ ins.length ∧ i = .int .i64 j ∧ q = .int .i64 r ∧ r + insCnt (ins.take j) + (ins.length - j) ≤ left ∧ (∀ x ∈ ins.take j, IsB 1048576 x) ∧ Below w.heap.size w wr) (fun _ i _ => ins.length - (intOf i).toNat)
    case atStart => exact ⟨0, left - ins.length, Nat.zero_le _, rfl, by go_num, by simp [insCnt]; omega, by simp, Below.refl _ _⟩
    case round =>
      obtain ⟨j, r, hj, rfl, rfl, hr, hag, hbr⟩ := hrel
      have HA := Lib.hid hag
      clear hag
      by_cases hlt : j < ins.length
      · have hk' := hk.full.below hbr
        obtain ⟨ad, A', c', rfl, hbl, k0, k1, k2, k3, k4, k5, k6, hk2⟩ := hk'.get hlt
        go_wp2_with fail
        refine (szIns_any ins[j] A' c' r _ hk2 (HB.out _ (List.getElem_mem hlt)) (by omega)).mono ?_
        rintro e w' ⟨hb1, rfl | ⟨r', rfl, hr', hcn, hok⟩⟩
        · go_wp2_with fail
          go_ret
          exact ⟨below_trans' hbr hb1, .inl rfl⟩
        · have hnn : ¬ ((r' : Int) < 0) := by omega
          go_wp2_with fail
          go_roundw
          case rel =>
            refine ⟨j + 1, r', by omega, by go_num, rfl, by rw [insCnt_take hlt]; omega, ?_, below_trans' hbr hb1⟩
            intro x hx
            rw [List.take_succ_eq_append_getElem hlt] at hx
            rcases List.mem_append.1 hx with h | h
            · exact HA.out x h
            · rw [List.mem_singleton.1 h]; exact hok
          case measure => simp [intOf]; omega
      · go_wp2
        go_ret
        have := HA.out
        rw [List.take_of_length_le (by omega)] at hr this
        exact ⟨hbr, .inr ⟨r, rfl, by omega, by omega, this⟩⟩
  · have hle' : ((left : Int) - ins.length < 0) := by omega
    go_wp2
    go_ret
    exact ⟨Below.refl _ _, .inl rfl⟩

theorem lawBox (w : World) (v : CV) (k : Cd) : CodeBox w v k (w.alloc (.cells #[.slice v.gA k.globals.length v.gc, .slice v.lA k.locks.length v.lc, .slice v.pA k.procs.length v.pc, .slice v.eA k.entry.length v.ec, .slice v.iA k.ins.length v.ic] 26)) :=
  ⟨below_alloc0 _ _, alloc_size _ _, box_cell _ _ _ 0 rfl, box_cell _ _ _ 1 rfl, box_cell _ _ _ 2 rfl, box_cell _ _ _ 3 rfl, box_cell _ _ _ 4 rfl⟩

set_option maxHeartbeats 2000000 in
theorem szCode_any {B : Nat} (v : CV) (k : Cd) (left : Nat) (w : World) (hk : CodeAt w B v k) (hb : CdB 9223372036854775807 k) (hl : left ≤ 1048576) :
    Calls Try.prog 15 #[.agg #[.slice v.gA k.globals.length v.gc, .slice v.lA k.locks.length v.lc, .slice v.pA k.procs.length v.pc, .slice v.eA k.entry.length v.ec, .slice v.iA k.ins.length v.ic], .int .i64 left] w (Szd w left fun r => r + k.cnt ≤ left ∧ CdB 1048576 k) := by
  have HG := Lib.hid (fun l (hl : l ≤ 1048576) W (h : CodeAt W W.heap.size v k) => szStringS_any v.gA v.gc k.globals l W h.g hb.globals hb.globalsS hl)
  have HLk := Lib.hid (fun l (hl : l ≤ 1048576) W (h : CodeAt W W.heap.size v k) => szStringS_any v.lA v.lc k.locks l W h.l hb.locks hb.locksS hl)
  have HP := Lib.hid (fun l (hl : l ≤ 1048576) W (h : CodeAt W W.heap.size v k) => szStringS_any v.pA v.pc k.procs l W h.p hb.procs hb.procsS hl)
  have HE := Lib.hid (fun l (hl : l ≤ 1048576) W => szIntS_any v.eA v.ec k.entry.length l W hb.entry hl)
  have HI := Lib.hid (fun l (hl : l ≤ 1048576) W (h : CodeAt W W.heap.size v k) => szInsS_any v.iA v.ic l k.ins W h.i hb.ins hb.insB hl)
  have HF := Lib.hid hb.entryF
  have hk0 := hk.full.below (below_alloc0 w (.cells #[.slice v.gA k.globals.length v.gc, .slice v.lA k.locks.length v.lc, .slice v.pA k.procs.length v.pc, .slice v.eA k.entry.length v.ec, .slice v.iA k.ins.length v.ic] 26))
  clear hb hk
  go_enter Try.func15, Try.ntmps15
  have hbx := lawBox w v k
  go_wp2_with fail
  generalize w.alloc (.cells #[.slice v.gA k.globals.length v.gc, .slice v.lA k.locks.length v.lc, .slice v.pA k.procs.length v.pc, .slice v.eA k.entry.length v.ec, .slice v.iA k.ins.length v.ic] 26) = W at hbx hk0 ⊢
  refine (HG.out left hl _ hk0.full).mono ?_
  rintro e w1 ⟨hb1, rfl | ⟨r1, rfl, hr1, hc1, hs1⟩⟩
  · go_wp2_with fail
    go_ret
    exact ⟨below_trans' hbx.1 hb1, .inl rfl⟩
  have hk1 := hk0.full.below hb1
  have hbx1 := hbx.to hb1
  clear hk0 hbx hb1
  have hn1 : ¬ ((r1 : Int) < 0) := by omega
  obtain ⟨hbw, hsz, c0, c1, c2, c3, c4⟩ := id hbx1
  go_wp2_with fail
  refine (HLk.out r1 (by omega) _ hk1.full).mono ?_
  clear hbw hsz c0 c1 c2 c3 c4
  rintro e w2 ⟨hb2, rfl | ⟨r2, rfl, hr2, hc2, hs2⟩⟩
  · go_wp2_with fail
    go_ret
    exact ⟨below_trans' hbx1.1 hb2, .inl rfl⟩
  have hk2 := hk1.full.below hb2
  have hbx2 := hbx1.to hb2
  clear hk1 hbx1 hb2
  have hn2 : ¬ ((r2 : Int) < 0) := by omega
  obtain ⟨hbw, hsz, c0, c1, c2, c3, c4⟩ := id hbx2
  go_wp2_with fail
  refine (HP.out r2 (by omega) _ hk2.full).mono ?_
  clear hbw hsz c0 c1 c2 c3 c4
  rintro e w3 ⟨hb3, rfl | ⟨r3, rfl, hr3, hc3, hs3⟩⟩
  · go_wp2_with fail
    go_ret
    exact ⟨below_trans' hbx2.1 hb3, .inl rfl⟩
  have hk3 := hk2.full.below hb3
  have hbx3 := hbx2.to hb3
  clear hk2 hbx2 hb3
  have hn3 : ¬ ((r3 : Int) < 0) := by omega
  obtain ⟨hbw, hsz, c0, c1, c2, c3, c4⟩ := id hbx3
  go_wp2_with fail
  refine (HE.out r3 (by omega) _).mono ?_
  clear hbw hsz c0 c1 c2 c3 c4
  rintro e w4 ⟨hb4, rfl | ⟨r4, rfl, hr4, hc4⟩⟩
  · go_wp2_with fail
    go_ret
    exact ⟨below_trans' hbx3.1 hb4, .inl rfl⟩
  have hk4 := hk3.full.below hb4
  have hbx4 := hbx3.to hb4
  clear hk3 hbx3 hb4
  have hn4 : ¬ ((r4 : Int) < 0) := by omega
  obtain ⟨hbw, hsz, c0, c1, c2, c3, c4⟩ := id hbx4
  go_wp2_with fail
  refine (HI.out r4 (by omega) _ hk4.full).mono ?_
  clear hbw hsz c0 c1 c2 c3 c4
  rintro e w5 ⟨hb5, rfl | ⟨r5, rfl, hr5, hc5, hs5⟩⟩
  · go_wp2_with fail
    go_ret
    exact ⟨below_trans' hbx4.1 hb5, .inl rfl⟩
  have hn5 : ¬ ((r5 : Int) < 0) := by omega
  go_wp2_with fail
  go_ret
  have hge := insCnt_ge k.ins
  exact ⟨below_trans' hbx4.1 hb5, .inr ⟨r5, rfl, by omega, by unfold Cd.cnt; omega, ⟨by omega, by omega, by omega, by omega, by omega, fun s h => by have := hs1 s h; omega, fun s h => by have := hs2 s h; omega, fun s h => by have := hs3 s h; omega, HF.out, hs5⟩⟩⟩
end Go.Proofs.Ytjnlmiekldflhaa
