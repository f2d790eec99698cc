/- Contracts of the function inside may, and of may: what may be held. -/
import Derived.Test.YtfecdgjnncpcjaaE5
import Derived.Test.YtfecdgjnncpcjaaF1
import Derived.Test.YtfecdgjnncpcjaaG1
set_option linter.unusedSimpArgs false
set_option linter.unusedVariables false
namespace Go.Proofs.Ytfecdgjnncpcjaa
open Go.ChangeShapes Go.WideShapes Go.ChangeAt Go.RowKit

theorem andNot_zero {h g : Nat} (hh : h < 64) (hg : g < 64) : andNot h g = 0 ↔ g ||| h = g := by
  constructor
  · intro e
    refine Nat.eq_of_testBit_eq fun i => ?_
    have h1 : (andNot h g).testBit i = false := by rw [e]; simp
    rw [testBit_andNot _ _ _ (by omega) (by omega)] at h1
    rw [Nat.testBit_or]
    cases hi : g.testBit i
    · rw [hi] at h1; simpa using h1
    · rfl
  · intro e
    refine Nat.eq_of_testBit_eq fun i => ?_
    rw [testBit_andNot _ _ _ (by omega) (by omega)]
    have h1 : (g ||| h).testBit i = g.testBit i := by rw [e]
    rw [Nat.testBit_or] at h1
    cases hi : g.testBit i
    · rw [hi] at h1; simp at h1; simp [h1]
    · simp
/-- What may keeps: the met variable in block bm, out in bo, again in ba, the sets in gx. -/
structure AK (W : World) (base bm bo ba gx n : Nat) (Am : Option Addr) (cm : Nat) (xs : List Nat) (new : Bool) : Prop where
  met : W.heap[bm]? = some (.cells #[.slice Am n cm] 52)
  out : W.heap[bo]? = some (.cells #[.slice (some ⟨gx, 0, none⟩) n n] 23)
  again : W.heap[ba]? = some (.cells #[.bool new] 4)
  rx : W.ownsRow base 3 1 (.slice (some ⟨gx, 0, none⟩) n n) n (nv xs)
  ne : bo ≠ ba ∧ bo ≠ gx ∧ ba ≠ gx ∧ bm ≠ bo ∧ bm ≠ ba ∧ bm ≠ gx
section
variable {W W' : World} {base bm bo ba gx n : Nat} {Am : Option Addr} {cm : Nat} {xs : List Nat} {new : Bool}
theorem AK.len (h : AK W base bm bo ba gx n Am cm xs new) : xs.length = n := by have := own_len h.rx; simpa [nv] using this
theorem AK.below (h : AK W base bm bo ba gx n Am cm xs new) (hb : Below W.heap.size W W') : AK W' base bm bo ba gx n Am cm xs new :=
  ⟨(hb.block bm (Array.getElem?_eq_some_iff.1 h.met).1).trans h.met, (hb.block bo (Array.getElem?_eq_some_iff.1 h.out).1).trans h.out, (hb.block ba (Array.getElem?_eq_some_iff.1 h.again).1).trans h.again, own_below h.rx hb, h.ne⟩
theorem AK.put (h : AK W base bm bo ba gx n Am cm xs new) (x y : Nat) {u : Int} (hu : u = y) : AK (W.setCell ⟨gx, x, none⟩ (.int .i64 u)) base bm bo ba gx n Am cm (xs.set x y) new := by
  subst hu
  obtain ⟨s1, s2⟩ := h.rx.stored x (.int .i64 (y : Int))
  rw [nv_set] at s1
  exact ⟨set_row_other h.met (a := ⟨gx, x, none⟩) h.ne.2.2.2.2.2 _, set_row_other h.out (a := ⟨gx, x, none⟩) h.ne.2.1 _, set_row_other h.again (a := ⟨gx, x, none⟩) h.ne.2.2.1 _, s1, h.ne⟩
theorem AK.say (h : AK W base bm bo ba gx n Am cm xs new) (b : Bool) : AK (W.setCell ⟨ba, 0, none⟩ (.bool b)) base bm bo ba gx n Am cm xs b :=
  ⟨set_row_other h.met (a := ⟨ba, 0, none⟩) h.ne.2.2.2.2.1 _, set_row_other h.out (a := ⟨ba, 0, none⟩) h.ne.1 _, set_row h.again 0 (.bool b), h.rx.kept (grown_set W ⟨ba, 0, none⟩ _) (.inr fun e => by injection e with e; exact h.ne.2.2.1 e.symm), h.ne⟩
theorem AK.lt (h : AK W base bm bo ba gx n Am cm xs new) : bo < W.heap.size ∧ ba < W.heap.size ∧ gx < W.heap.size ∧ base ≤ gx ∧ bm < W.heap.size :=
  ⟨(Array.getElem?_eq_some_iff.1 h.out).1, (Array.getElem?_eq_some_iff.1 h.again).1, (own_lt h.rx).2, (own_lt h.rx).1, (Array.getElem?_eq_some_iff.1 h.met).1⟩
end
/-- A put changes something. -/
def achg (ms : List Bool) (h : Nat) (xs : List Nat) (x : Nat) : Bool := mkd ms x && (gt xs x ||| h != gt xs x)
set_option maxHeartbeats 2000000 in
theorem may1_any {base B : Nat} (bm bo ba gx n x h : Nat) (Am : Option Addr) (cm : Nat) (ms : List Bool) (xs : List Nat) (new : Bool) (w : World) (hK : AK w base bm bo ba gx n Am cm xs new) (hrd : Rd w B Am (ms.map bv)) (hml : ms.length = n) (hx : x < n) (hn : n ≤ 1500) (hh : h < 64) (hg : gt xs x < 64) :
    Calls Try.prog 77 #[.int .i64 x, .int .i64 h, .pointer (some ⟨bm, 0, none⟩), .pointer (some ⟨bo, 0, none⟩), .pointer (some ⟨ba, 0, none⟩)] w fun e w' => e = .returned (.tuple #[]) ∧ AK w' base bm bo ba gx n Am cm (aput ms h xs x) (new || achg ms h xs x) ∧ Tch bo ba gx w w' := by
  have hl := hK.len
  obtain ⟨ad, rfl, _, hc⟩ := hrd.mark (j := x) (by omega)
  have c1 := (row_facts hK.met).1 0 _ rfl
  have co := (row_facts hK.out).1 0 _ rfl
  have cx := own_at hK.rx (j := x) hx (nv_get (gt_some (xs := xs) (by omega)))
  have ca := (row_facts hK.again).1 0 _ rfl
  have fa := (row_facts hK.again).2 0
  have fx := hK.rx.frozenAt x
  have y1 : (0 : Int) ≤ (x : Int) := by omega
  have y2 : (x : Int) < (n : Int) := by omega
  have HK := Lib.hid hK
  have HL := Lib.hid hl
  clear hl hrd hml
  cases hmk : mkd ms x
  · rw [hmk] at hc
    have HA := Lib.hid (show aput ms h xs x = xs from by unfold aput; rw [if_neg (by rw [hmk]; simp)])
    have HC := Lib.hid (show achg ms h xs x = false from by unfold achg; rw [hmk]; rfl)
    clear hmk hK
    go_enter Try.func77, Try.ntmps77
    go_wp2_with fail
    go_end0
    exact ⟨rfl, by rw [HA.out, HC.out, Bool.or_false]; exact HK.out, Tch.refl _ _ _ _⟩
  · rw [hmk] at hc
    have ean := i64_andNot_nat h (gt xs x) (by omega) (by omega)
    by_cases he : gt xs x ||| h = gt xs x
    · have HA := Lib.hid (show aput ms h xs x = xs from by unfold aput; rw [if_pos hmk, he, set_same (by rw [HL.out]; exact hx)])
      have HC := Lib.hid (show achg ms h xs x = false from by unfold achg; rw [he]; simp)
      have hz : (((andNot h (gt xs x) : Nat) : Int) != 0) = false := by rw [(andNot_zero hh hg).2 he]; rfl
      clear hmk hK he
      go_enter Try.func77, Try.ntmps77
      go_wp2_with fail
      go_end0
      exact ⟨rfl, by rw [HA.out, HC.out, Bool.or_false]; exact HK.out, Tch.refl _ _ _ _⟩
    · have HA := Lib.hid (show aput ms h xs x = xs.set x (gt xs x ||| h) from by unfold aput; rw [if_pos hmk])
      have HC := Lib.hid (show achg ms h xs x = true from by unfold achg; rw [hmk]; simpa using he)
      have hz : (((andNot h (gt xs x) : Nat) : Int) != 0) = true := by
        simp only [bne_iff_ne, ne_eq]
        intro e
        exact he ((andNot_zero hh hg).1 (by omega))
      have eor := i64_or_nat (gt xs x) h (by omega) (by omega)
      have hp := hK.put x (gt xs x ||| h) (u := ((gt xs x ||| h : Nat) : Int)) rfl
      have HP := Lib.hid hp
      have cp := (row_facts hp.again).1 0 _ rfl
      have fp := (row_facts hp.again).2 0
      clear hmk hK he hp
      go_enter Try.func77, Try.ntmps77
      go_wp2_with fail
      go_end0
      exact ⟨rfl, by rw [HA.out, HC.out, Bool.or_true]; exact HP.out.say true, ((Tch.refl bo ba gx w).set (a := ⟨gx, x, none⟩) (.inr (.inr rfl)) _).set (a := ⟨ba, 0, none⟩) (.inr (.inl rfl)) _⟩

theorem achg_no {ms : List Bool} {h x : Nat} {xs : List Nat} (hx : x < xs.length) (hc : achg ms h xs x = false) : aput ms h xs x = xs := by
  unfold achg at hc
  unfold aput
  split
  · rename_i hm
    rw [hm] at hc
    have e : gt xs x ||| h = gt xs x := by simpa using hc
    rw [e, set_same hx]
  · rfl
theorem achg_yes {ms : List Bool} {h x : Nat} {xs : List Nat} (hx : x < xs.length) (hc : achg ms h xs x = true) : xs.sum < (aput ms h xs x).sum := by
  unfold achg at hc
  simp only [Bool.and_eq_true, bne_iff_ne, ne_eq] at hc
  unfold aput
  rw [if_pos hc.1]
  have := sum_set (y := gt xs x ||| h) hx
  have hor : gt xs x ≤ gt xs x ||| h := Nat.left_le_or
  have := hc.2
  omega
theorem aput_len (ms : List Bool) (h x : Nat) (xs : List Nat) : (aput ms h xs x).length = xs.length := by
  unfold aput
  split
  · simp
  · rfl
/-- As xs0, or with more. -/
structure AtR (n : Nat) (xs0 : List Nat) (new : Bool) (xs : List Nat) : Prop where
  no : new = false → xs = xs0
  yes : new = true → 63 * n - xs.sum < 63 * n - xs0.sum
theorem AtR.refl (n : Nat) (xs : List Nat) : AtR n xs false xs := ⟨fun _ => rfl, fun h => by simp at h⟩
theorem AtR.put {n : Nat} {xs0 xs : List Nat} {new : Bool} (h : AtR n xs0 new xs) (ms : List Bool) {g x : Nat} (hx : x < xs.length) (hl : xs.length = n) (hlt : ∀ i, gt (aput ms g xs x) i < 64) : AtR n xs0 (new || achg ms g xs x) (aput ms g xs x) := by
  have hle : (aput ms g xs x).sum ≤ 63 * n := by
    have := sum_le (xs := aput ms g xs x) (m := 63) fun i _ => by have := hlt i; omega
    rw [aput_len, hl] at this
    exact this
  cases hc : achg ms g xs x
  · rw [achg_no hx hc, Bool.or_false]; exact h
  · rw [Bool.or_true]
    refine ⟨fun h => by simp at h, fun _ => ?_⟩
    have h1 := achg_yes hx hc
    cases new
    · rw [← h.no rfl]; omega
    · have := h.yes rfl; omega
theorem bhd_lt' {k : Cd} (hr : Right k) {j h : Nat} (hj : j < k.ins.length) (hh : h < 64) : bhd (opN k j) (argN k j) h < 64 := by
  unfold bhd
  split
  · rename_i h6
    have h1 := argN_lt6 hr hj (.inl h6)
    have h2 := hr.locks
    have h3 : 2 ^ argN k j < 2 ^ 6 := Nat.pow_lt_pow_right (by omega) (by omega)
    exact (Nat.or_lt_two_pow (n := 6) hh h3 : _ < 2 ^ 6)
  · split
    · exact Nat.lt_of_le_of_lt (andNot_le _ _) hh
    · exact hh
theorem mayS0 (k : Cd) : MayS k (List.replicate k.ins.length 0) := ⟨by simp, fun a b h => by
  exfalso
  rcases Nat.lt_or_ge a k.ins.length with h1 | h1
  · rw [gt_replicate h1] at h; simp at h
  · rw [gt_none (by simpa using h1)] at h; simp at h⟩

set_option maxRecDepth 100000 in
set_option maxHeartbeats 16000000 in
theorem may_any {B B' : Nat} (g : Nat) (v : CV) (k : Cd) (Am : Option Addr) (cm : Nat) (w : World) (hr : Right k) (hW : WAt w B g v k) (hrd : Rd w B' Am ((markL k.ins.length (MetP k)).map bv)) :
    Calls Try.prog 39 #[.pointer (some ⟨g, 0, none⟩), .slice Am k.ins.length cm] w (NewNats w (mayN k)) := by
  have hmf : ∀ (fn : Fn) (first cap : Array Value) (w : World), (Instr.makeFunc fn first cap).run Try.prog w = .ok (.func fn first cap) w := fun _ _ _ _ => rfl
  have hWf := hW.full
  have hkf := hWf.code
  have hrf := hrd.full
  have hins := hr.ins
  have hpl := hr.procs
  have HEL := Lib.hid hr.entry
  have HR := Lib.hid hr
  have HKT := Lib.hid (fun W (hb : Below w.heap.size w W) => hWf.kat.to hb)
  have HKC := Lib.hid (fun W (hb : Below w.heap.size w W) => hkf.below hb)
  have HNXT := Lib.hid (fun a (ha : a < k.ins.length) W (hb : Below w.heap.size w W) => nextIn_any g v k a W hr (hkf.below hb) (hWf.kat.to hb) ha)
  have HEN := Lib.hid (fun p (hp : p < k.procs.length) W (hb : Below w.heap.size w W) => (show Calls Try.prog 78 #[.agg #[.slice v.gA k.globals.length v.gc, .slice v.lA k.locks.length v.lc, .slice v.pA k.procs.length v.pc, .slice v.eA k.entry.length v.ec, .slice v.iA k.ins.length v.ic], .int .i64 (p : Int)] W fun e w' => e = .returned (.int .i64 ((fin k p : Nat) : Int)) ∧ Below W.heap.size W w' from by
    have h1 := endOfProc_any v k p W (hkf.below hb) (by omega) (by have := hr.entry; omega) (by omega)
    rw [hr.fin_eq p hp] at h1
    exact h1))
  have HECL := Lib.hid (fun p (hp : p < k.procs.length) W (hb : Below w.heap.size w W) => entry_cell hr (hkf.below hb).full hp)
  have HSTOP := Lib.hid (fun xs (h : MayS k xs) hf => h.stop hr hf)
  have HRM := Lib.hid (fun W (hb : Below w.heap.size w W) => hrf.below hb)
  have HMSL := Lib.hid (show (markL k.ins.length (MetP k)).length = k.ins.length from markL_len _ _)
  have HMT := Lib.hid (show ∀ a, mkd (markL k.ins.length (MetP k)) a = true → MetP k a from fun a h => (mkd_markL_true.1 h).2)
  have h0n : 0 < k.ins.length := (by
    have hm := List.length_pos_of_mem hr.main
    have := hr.lt 0 hm
    omega)
  obtain ⟨ai, eA⟩ : ∃ ai, v.iA = some ai := (by
    obtain ⟨ai, A', c', eA, _⟩ := hkf.full.i.get h0n
    exact ⟨ai, eA⟩)
  have HEA := Lib.hid eA
  clear eA
  have bB := below_alloc0 w (.cells #[.slice Am k.ins.length cm] 52)
  have nB := heap_alloc_new w (.cells #[.slice Am k.ins.length cm] 52)
  have sB : (w.alloc (.cells #[.slice Am k.ins.length cm] 52)).heap.size = w.heap.size + 1 := by simp
  have SB := Lib.hid sB
  clear sB
  obtain ⟨c0, c1, c2, c3, c4⟩ := HKT.out _ bB
  clear hr hW hkf hWf hrd hrf
  generalize markL k.ins.length (MetP k) = ms at *
  go_enter Try.func39, Try.ntmps39
  go_wp2_with (at_make; generalize w.alloc (.cells #[.slice Am k.ins.length cm] 52) = W at *; refine make_ints _ rfl _ _ rfl k.ins.length rfl rfl (by omega) ?_; intro w1 hown hb1)
  rw [zeros_nv] at hown
  have sB := SB.out
  have n1 := heap_alloc_new w1 (.cells #[.slice (some ⟨W.heap.size, 0, none⟩) k.ins.length k.ins.length] 23)
  have b1 := below_alloc0 w1 (.cells #[.slice (some ⟨W.heap.size, 0, none⟩) k.ins.length k.ins.length] 23)
  have s1 : (w1.alloc (.cells #[.slice (some ⟨W.heap.size, 0, none⟩) k.ins.length k.ins.length] 23)).heap.size = w1.heap.size + 1 := by simp
  have hX1 := (own_lt hown).2
  have hb01 := below_trans' bB hb1
  have hgx0 : w.heap.size ≤ W.heap.size := by omega
  have hbo0 : w.heap.size ≤ w1.heap.size := by omega
  have nm1 := (hb1.block w.heap.size (by omega)).trans nB
  generalize w1.alloc (.cells #[.slice (some ⟨W.heap.size, 0, none⟩) k.ins.length k.ins.length] 23) = w2 at *
  have n2 := heap_alloc_new w2 (.cells #[.bool true] 4)
  have b2 := below_alloc0 w2 (.cells #[.bool true] 4)
  have HMK0 := Lib.hid (show AK (w2.alloc (.cells #[.bool true] 4)) w.heap.size w.heap.size w1.heap.size (w1.heap.size + 1) W.heap.size k.ins.length Am cm (List.replicate k.ins.length 0) true from
    ⟨(b2.block _ (by omega)).trans ((b1.block _ (by omega)).trans nm1), (b2.block _ (by omega)).trans n1, by rw [← s1]; exact n2, own_mono (own_below (own_below hown b1) b2) hgx0, by omega⟩)
  have HB0 := Lib.hid (below_trans' (below_trans' hb01 b1) b2)
  have hle : w.heap.size ≤ w1.heap.size + 1 := by omega
  have hbo9 : w.heap.size < w1.heap.size := by omega
  have hgx9 : w.heap.size < W.heap.size := by omega
  clear n1 b1 s1 hX1 hown hb01 nm1 n2 b2 bB nB sB c0 c1 c2 c3 c4 hb1
  go_loopg [6] (2 * (63 * k.ins.length - (List.replicate k.ins.length 0).sum) + 1) (fun l pa wr => ∃ (ba : Nat) (xs : List Nat) (new : Bool), pa = .pointer (some ⟨ba, 0, none⟩) ∧ AK wr w.heap.size w.heap.size w1.heap.size ba W.heap.size k.ins.length Am cm xs new ∧ MayS k xs ∧ (new = false → (List.range k.ins.length).foldl (aplace k ms) xs = xs) ∧ l = 2 * (63 * k.ins.length - xs.sum) + (if new then 1 else 0) ∧ w.heap.size ≤ ba ∧ Below w.heap.size w wr)
  case atStart => exact ⟨_, _, true, rfl, HMK0.out, mayS0 k, by simp, rfl, hle, HB0.out⟩
  case round =>
    clear HMK0 HB0 hle
    generalize w1.heap.size = bo at *
    generalize W.heap.size = gx at *
    obtain ⟨ba, xs0, new, rfl, hM, hS, hfx, rfl, hba0, hb⟩ := hrel
    have HFX := Lib.hid hfx
    have HS := Lib.hid hS
    clear hfx hS
    have ca := (row_facts hM.again).1 0 _ rfl
    have fa := (row_facts hM.again).2 0
    have co := (row_facts hM.out).1 0 _ rfl
    cases new
    · have hfin := HSTOP.out _ HS.out (HFX.out rfl)
      have HFI := Lib.hid (show NewNats w (mayN k) (.returned (.slice (some ⟨gx, 0, none⟩) k.ins.length k.ins.length)) wr from by
        rw [← hfin]
        exact ⟨some ⟨gx, 0, none⟩, k.ins.length, by rw [hM.len], by rw [hM.len]; exact hM.rx, hb⟩)
      clear hfin
      go_wp2_with fail
      go_ret
      exact HFI.out
    · have hMs := hM.say false
      have hbs : Below w.heap.size w (wr.setCell ⟨ba, 0, none⟩ (.bool false)) := hb.trans ((((Tch.refl bo ba gx wr).set (a := ⟨ba, 0, none⟩) (.inr (.inl rfl)) (.bool false))).below hb.size hbo0 hba0 hgx0)
      obtain ⟨c0, c1, c2, c3, c4⟩ := HKT.out _ hbs
      rw [HEA.out] at c4
      clear HFX hM hb co
      go_wp2_with fail
      clear ca fa c0 c1 c2 c3 c4
      generalize wr.setCell ⟨ba, 0, none⟩ (.bool false) = wj at *
      obtain ⟨wo, rfl⟩ : ∃ wo : World, wo = wr := ⟨_, rfl⟩
      go_loopg [28] k.ins.length (fun l i wr => ∃ (j : Nat) (xs : List Nat) (nw : Bool), j ≤ k.ins.length ∧ l = k.ins.length - j ∧ i = .int .i64 j ∧ AK wr w.heap.size w.heap.size bo ba gx k.ins.length Am cm xs nw ∧ MayS k xs ∧ AtR k.ins.length xs0 nw xs ∧ xs = (List.range j).foldl (aplace k ms) xs0 ∧ Below w.heap.size w wr)
      case atStart => exact ⟨0, xs0, false, by omega, by omega, rfl, hMs, HS.out, AtR.refl _ _, rfl, hbs⟩
      case round =>
        clear hMs HS hbs
        obtain ⟨j, xs, nw0, hj, rfl, rfl, hM, hS, hP, hfo, hb⟩ := hrel
        have HFO := Lib.hid hfo
        have HS := Lib.hid hS
        have HP := Lib.hid hP
        clear hfo hS hP
        by_cases hlt : j < k.ins.length
        · obtain ⟨ai', A', c', eA', hbi, k0, k1, k2, k3, k4, k5, k6, _⟩ := (HKC.out _ hb).full.i.get hlt
          rw [HEA.out] at eA'
          injection eA' with eA'
          subst eA'
          obtain ⟨adm, eam, _, cmk⟩ := (HRM.out _ hb).mark (j := j) (by rw [HMSL.out]; exact hlt)
          have HEM := Lib.hid eam
          have c1 := (row_facts hM.met).1 0 _ rfl
          rw [eam] at c1
          clear eam
          have co := (row_facts hM.out).1 0 _ rfl
          have cx := own_at hM.rx (j := j) hlt (nv_get (gt_some (xs := xs) (by rw [hM.len]; exact hlt)))
          rw [opN_eq hlt] at k0
          rw [argN_eq HR.out hlt] at k1
          have hhl := HS.out.lt HR.out j
          have z1 : (0 : Int) ≤ (j : Int) := by omega
          have z2 : (j : Int) < (k.ins.length : Int) := by omega
          cases hmk : mkd ms j
          · rw [hmk] at cmk
            have HEQ := Lib.hid (show aplace k ms xs j = xs from by unfold aplace; rw [if_neg (by rw [hmk]; simp)])
            clear hmk
            have bA := below_alloc0 wr (.cells #[.int .i64 (opN k j), .int .i64 (argN k j), .int .i64 k.ins[j].term.kind, .int .i64 k.ins[j].term.num, .string k.ins[j].term.name, .slice A' k.ins[j].term.kids.length c', .int .i64 k.ins[j].to] 96)
            have hMa := hM.below bA
            have hba := below_trans' hb bA
            have cm' := cell_below bA cmk
            have c1' := cell_below bA c1
            clear bA
            go_wp2_with fail
            go_roundg (k.ins.length - (j + 1))
            case measure => omega
            case rel => exact ⟨j + 1, xs, nw0, by omega, rfl, by go_num, hMa, HS.out, HP.out, by rw [List.range_succ, List.foldl_append, ← HFO.out]; exact HEQ.out.symm, hba⟩
          · rw [hmk] at cmk
            have HMJ := Lib.hid (HMT.out j hmk)
            by_cases h4 : opN k j = 4
            · have hpp := argN_lt HR.out hlt (.inl h4)
              have hel := ent_lt HR.out hpp
              have hfl := HR.out.lt _ hpp
              have hpe : argN k j < k.entry.length := by have := HEL.out; omega
              have y1 : (0 : Int) ≤ (argN k j : Int) := by omega
              have y2 : (argN k j : Int) < (k.entry.length : Int) := by omega
              have hge := HS.out.lt HR.out (ent k (argN k j))
              have HS1 := Lib.hid (HS.out.put ms (n := ent k (argN k j)) (g := gt xs j) fun b hb => .call (HS.out.snd j b hb) h4)
              have HP1 := Lib.hid (HP.out.put ms (g := gt xs j) (x := ent k (argN k j)) (by rw [hM.len]; exact hel) hM.len (fun i => HS1.out.lt HR.out i))
              have HEQ := Lib.hid (show (nextL k j).foldl (aput ms (gt (aput ms (gt xs j) xs (ent k (argN k j))) (fin k (argN k j) - 1))) (aput ms (gt xs j) xs (ent k (argN k j))) = aplace k ms xs j from by unfold aplace; rw [if_pos hmk, if_pos h4])
              have HNX := Lib.hid (show ∀ y ∈ nextL k j, y < k.ins.length ∧ ∀ b, (gt (aput ms (gt xs j) xs (ent k (argN k j))) (fin k (argN k j) - 1)).testBit b = true → MayP k b y from fun y hy => ⟨(nextL_in HR.out hlt hy).1, fun b hb => .back HMJ.out h4 (HS1.out.snd _ b hb) hy⟩)
              rw [h4] at k0
              clear hmk h4 HS HP
              have bA := below_alloc0 wr (.cells #[.int .i64 4, .int .i64 (argN k j), .int .i64 k.ins[j].term.kind, .int .i64 k.ins[j].term.num, .string k.ins[j].term.name, .slice A' k.ins[j].term.kids.length c', .int .i64 k.ins[j].to] 96)
              have hba := below_trans' hb bA
              have hMa := hM.below bA
              have cm' := cell_below bA cmk
              have c1' := cell_below bA c1
              have co' := cell_below bA co
              have cx' := cell_below bA cx
              have ca1 := box_cell wr #[.int .i64 4, .int .i64 (argN k j), .int .i64 k.ins[j].term.kind, .int .i64 k.ins[j].term.num, .string k.ins[j].term.name, .slice A' k.ins[j].term.kids.length c', .int .i64 k.ins[j].to] 96 1 rfl
              obtain ⟨e0, e1, e2, e3, e4⟩ := HKT.out _ hba
              obtain ⟨ade, ee, hbe, hce⟩ := HECL.out (argN k j) hpp _ hba
              rw [ee] at e3
              have hbx : wr.heap.size < (wr.alloc (.cells #[.int .i64 4, .int .i64 (argN k j), .int .i64 k.ins[j].term.kind, .int .i64 k.ins[j].term.num, .string k.ins[j].term.name, .slice A' k.ins[j].term.kids.length c', .int .i64 k.ins[j].to] 96)).heap.size := by simp
              have hlw := hM.lt
              clear bA ee
              go_wp2_with fail
              clear cmk co cx c1 k0 k1 k2 k3 k4 k5 k6 hM cm' c1' cx'
              have hbz : Below w.heap.size w wr := hb
              have hbsz := hb.size
              clear hb
              generalize wr.alloc (.cells #[.int .i64 4, .int .i64 (argN k j), .int .i64 k.ins[j].term.kind, .int .i64 k.ins[j].term.num, .string k.ins[j].term.name, .slice A' k.ins[j].term.kids.length c', .int .i64 k.ins[j].to] 96) = wa at *
              generalize wr.heap.size = bx at *
              go_still_tail 11, (by kernel_rfl)
              change wpList _ _ _ _ _ wa.drew
              have hMD := hMa.below (Below.refl wa.heap.size wa).drew
              have HPT := Lib.hid (may1_any w.heap.size bo ba gx k.ins.length (ent k (argN k j)) (gt xs j) Am cm ms xs nw0 wa.drew hMD (HRM.out _ hba.drew) HMSL.out hel hins hhl hge)
              have caD : wa.drew.cell? ⟨bx, 1, none⟩ = some (.int .i64 (argN k j : Int)) := ca1
              have hbD := hba.drew
              have hbxD : bx < wa.drew.heap.size := hbx
              clear ca1 hba hMa hMD e0 e1 e2 e3 e4 hce co' hbx
              generalize wa.drew = wd at *
              go_wp2_with fail
              refine HPT.out.mono ?_
              rintro e w5 ⟨rfl, hM5, hT5⟩
              have ca5 : w5.cell? ⟨bx, 1, none⟩ = some (.int .i64 (argN k j : Int)) := (World.cell?_of_block (hT5.block bx hbxD (by omega) (by omega) (by omega))).trans caD
              have hb05 := hbD.trans (hT5.below hbD.size hbo0 hba0 hgx0)
              clear HPT caD hT5 hbD hbxD
              generalize (nw0 || achg ms (gt xs j) xs (ent k (argN k j))) = nw1 at *
              generalize aput ms (gt xs j) xs (ent k (argN k j)) = xs1 at *
              obtain ⟨d0, d1, d2, d3, d4⟩ := HKT.out _ hb05
              have co5 := (row_facts hM5.out).1 0 _ rfl
              have hfe : fin k (argN k j) - 1 < k.ins.length := by omega
              have hsub : ((fin k (argN k j) : Nat) : Int) - 1 = ((fin k (argN k j) - 1 : Nat) : Int) := by omega
              have cm5 := own_at hM5.rx (j := fin k (argN k j) - 1) hfe (nv_get (gt_some (xs := xs1) (by rw [hM5.len]; exact hfe)))
              have hwr : IntKind.i64.wrap ((fin k (argN k j) - 1 : Nat) : Int) = ((fin k (argN k j) - 1 : Nat) : Int) := (by
                generalize fin k (argN k j) - 1 = q at hfe
                rw [IntKind.wrap_i64]
                omega)
              have y3 : (0 : Int) ≤ ((fin k (argN k j) - 1 : Nat) : Int) := by omega
              have y4 : ((fin k (argN k j) - 1 : Nat) : Int) < (k.ins.length : Int) := by omega
              have hh := HS1.out.lt HR.out (fin k (argN k j) - 1)
              go_wp2_with fail
              refine wp_region_held_drew (S := fun w' => Below w5.heap.size w5 w') (by kernel_rfl) ((Below.refl _ _).drew) (fun hHeld => ?_)
              first | (refine hand_skip (i := 0) rfl (by kernel_rfl) (by kernel_rfl) (by kernel_rfl) (fun _ _ _ h => h) (by rfl) (by assumption) ?_) | (refine hand_run (i := 0) (v := ?_) rfl (by kernel_rfl) (by kernel_rfl) (by kernel_rfl) (fun _ _ _ h => h) (by rfl) ?_ (by assumption) ?_; rotate_left; (intro W hW; have f0 := cell_below hW d0; have f1 := cell_below hW d1; have f2 := cell_below hW d2; have f3 := cell_below hW d3; have f4 := cell_below hW d4; have f5 := cell_below hW co5; have f6 := cell_below hW cm5; have f7 := cell_below hW ca5; first | (go_simp; done) | (go_simp; with_reducible rfl)))
              (try simp only [Act.put, List.setIfInBounds_toArray, List.set_cons_zero, List.set_cons_succ])
              first | (refine hand_skip (i := 1) rfl (by kernel_rfl) (by kernel_rfl) (by kernel_rfl) (fun _ _ _ h => h) (by rfl) (by assumption) ?_) | (refine hand_run (i := 1) (v := ?_) rfl (by kernel_rfl) (by kernel_rfl) (by kernel_rfl) (fun _ _ _ h => h) (by rfl) ?_ (by assumption) ?_; rotate_left; (intro W hW; have f0 := cell_below hW d0; have f1 := cell_below hW d1; have f2 := cell_below hW d2; have f3 := cell_below hW d3; have f4 := cell_below hW d4; have f5 := cell_below hW co5; have f6 := cell_below hW cm5; have f7 := cell_below hW ca5; first | (go_simp; done) | (go_simp; with_reducible rfl)))
              (try simp only [Act.put, List.setIfInBounds_toArray, List.set_cons_zero, List.set_cons_succ])
              first | (refine hand_skip (i := 2) rfl (by kernel_rfl) (by kernel_rfl) (by kernel_rfl) (fun _ _ _ h => h) (by rfl) (by assumption) ?_) | (refine hand_run (i := 2) (v := ?_) rfl (by kernel_rfl) (by kernel_rfl) (by kernel_rfl) (fun _ _ _ h => h) (by rfl) ?_ (by assumption) ?_; rotate_left; (intro W hW; have f0 := cell_below hW d0; have f1 := cell_below hW d1; have f2 := cell_below hW d2; have f3 := cell_below hW d3; have f4 := cell_below hW d4; have f5 := cell_below hW co5; have f6 := cell_below hW cm5; have f7 := cell_below hW ca5; first | (go_simp; done) | (go_simp; with_reducible rfl)))
              (try simp only [Act.put, List.setIfInBounds_toArray, List.set_cons_zero, List.set_cons_succ])
              first | (refine hand_skip (i := 3) rfl (by kernel_rfl) (by kernel_rfl) (by kernel_rfl) (fun _ _ _ h => h) (by rfl) (by assumption) ?_) | (refine hand_run (i := 3) (v := ?_) rfl (by kernel_rfl) (by kernel_rfl) (by kernel_rfl) (fun _ _ _ h => h) (by rfl) ?_ (by assumption) ?_; rotate_left; (intro W hW; have f0 := cell_below hW d0; have f1 := cell_below hW d1; have f2 := cell_below hW d2; have f3 := cell_below hW d3; have f4 := cell_below hW d4; have f5 := cell_below hW co5; have f6 := cell_below hW cm5; have f7 := cell_below hW ca5; first | (go_simp; done) | (go_simp; with_reducible rfl)))
              (try simp only [Act.put, List.setIfInBounds_toArray, List.set_cons_zero, List.set_cons_succ])
              first | (refine hand_skip (i := 4) rfl (by kernel_rfl) (by kernel_rfl) (by kernel_rfl) (fun _ _ _ h => h) (by rfl) (by assumption) ?_) | (refine hand_run (i := 4) (v := ?_) rfl (by kernel_rfl) (by kernel_rfl) (by kernel_rfl) (fun _ _ _ h => h) (by rfl) ?_ (by assumption) ?_; rotate_left; (intro W hW; have f0 := cell_below hW d0; have f1 := cell_below hW d1; have f2 := cell_below hW d2; have f3 := cell_below hW d3; have f4 := cell_below hW d4; have f5 := cell_below hW co5; have f6 := cell_below hW cm5; have f7 := cell_below hW ca5; first | (go_simp; done) | (go_simp; with_reducible rfl)))
              (try simp only [Act.put, List.setIfInBounds_toArray, List.set_cons_zero, List.set_cons_succ])
              first | (refine hand_skip (i := 5) rfl (by kernel_rfl) (by kernel_rfl) (by kernel_rfl) (fun _ _ _ h => h) (by rfl) (by assumption) ?_) | (refine hand_run (i := 5) (v := ?_) rfl (by kernel_rfl) (by kernel_rfl) (by kernel_rfl) (fun _ _ _ h => h) (by rfl) ?_ (by assumption) ?_; rotate_left; (intro W hW; have f0 := cell_below hW d0; have f1 := cell_below hW d1; have f2 := cell_below hW d2; have f3 := cell_below hW d3; have f4 := cell_below hW d4; have f5 := cell_below hW co5; have f6 := cell_below hW cm5; have f7 := cell_below hW ca5; first | (go_simp; done) | (go_simp; with_reducible rfl)))
              (try simp only [Act.put, List.setIfInBounds_toArray, List.set_cons_zero, List.set_cons_succ])
              first | (refine hand_skip (i := 6) rfl (by kernel_rfl) (by kernel_rfl) (by kernel_rfl) (fun _ _ _ h => h) (by rfl) (by assumption) ?_) | (refine hand_run (i := 6) (v := ?_) rfl (by kernel_rfl) (by kernel_rfl) (by kernel_rfl) (fun _ _ _ h => h) (by rfl) ?_ (by assumption) ?_; rotate_left; (intro W hW; have f0 := cell_below hW d0; have f1 := cell_below hW d1; have f2 := cell_below hW d2; have f3 := cell_below hW d3; have f4 := cell_below hW d4; have f5 := cell_below hW co5; have f6 := cell_below hW cm5; have f7 := cell_below hW ca5; first | (go_simp; done) | (go_simp; with_reducible rfl)))
              (try simp only [Act.put, List.setIfInBounds_toArray, List.set_cons_zero, List.set_cons_succ])
              refine hand_one (i := 7) rfl (by kernel_rfl) (fun K hK => ?_)
              refine q_yes (by rfl) ?_
              go_simp
              refine (HEN.out _ hpp _ (below_trans' hb05 hHeld)).mono ?_
              rintro e w6 ⟨rfl, hb6⟩
              refine hK.out _ _ (below_trans' hHeld hb6) (fun hHeld => ?_)
              clear hK K
              (try simp only [Act.put, List.setIfInBounds_toArray, List.set_cons_zero, List.set_cons_succ])
              first | (refine hand_skip (i := 8) rfl (by kernel_rfl) (by kernel_rfl) (by kernel_rfl) (fun _ _ _ h => h) (by rfl) (by assumption) ?_) | (refine hand_run (i := 8) (v := ?_) rfl (by kernel_rfl) (by kernel_rfl) (by kernel_rfl) (fun _ _ _ h => h) (by rfl) ?_ (by assumption) ?_; rotate_left; (intro W hW; have f0 := cell_below hW d0; have f1 := cell_below hW d1; have f2 := cell_below hW d2; have f3 := cell_below hW d3; have f4 := cell_below hW d4; have f5 := cell_below hW co5; have f6 := cell_below hW cm5; have f7 := cell_below hW ca5; first | (go_simp; done) | (go_simp; with_reducible rfl)))
              (try simp only [Act.put, List.setIfInBounds_toArray, List.set_cons_zero, List.set_cons_succ])
              first | (refine hand_skip (i := 9) rfl (by kernel_rfl) (by kernel_rfl) (by kernel_rfl) (fun _ _ _ h => h) (by rfl) (by assumption) ?_) | (refine hand_run (i := 9) (v := ?_) rfl (by kernel_rfl) (by kernel_rfl) (by kernel_rfl) (fun _ _ _ h => h) (by rfl) ?_ (by assumption) ?_; rotate_left; (intro W hW; have f0 := cell_below hW d0; have f1 := cell_below hW d1; have f2 := cell_below hW d2; have f3 := cell_below hW d3; have f4 := cell_below hW d4; have f5 := cell_below hW co5; have f6 := cell_below hW cm5; have f7 := cell_below hW ca5; first | (go_simp; done) | (go_simp; with_reducible rfl)))
              (try simp only [Act.put, List.setIfInBounds_toArray, List.set_cons_zero, List.set_cons_succ])
              first | (refine hand_skip (i := 10) rfl (by kernel_rfl) (by kernel_rfl) (by kernel_rfl) (fun _ _ _ h => h) (by rfl) (by assumption) ?_) | (refine hand_run (i := 10) (v := ?_) rfl (by kernel_rfl) (by kernel_rfl) (by kernel_rfl) (fun _ _ _ h => h) (by rfl) ?_ (by assumption) ?_; rotate_left; (intro W hW; have f0 := cell_below hW d0; have f1 := cell_below hW d1; have f2 := cell_below hW d2; have f3 := cell_below hW d3; have f4 := cell_below hW d4; have f5 := cell_below hW co5; have f6 := cell_below hW cm5; have f7 := cell_below hW ca5; first | (go_simp; done) | (go_simp; with_reducible rfl)))
              (try simp only [Act.put, List.setIfInBounds_toArray, List.set_cons_zero, List.set_cons_succ])
              first | (refine hand_skip (i := 11) rfl (by kernel_rfl) (by kernel_rfl) (by kernel_rfl) (fun _ _ _ h => h) (by rfl) (by assumption) ?_) | (refine hand_run (i := 11) (v := ?_) rfl (by kernel_rfl) (by kernel_rfl) (by kernel_rfl) (fun _ _ _ h => h) (by rfl) ?_ (by assumption) ?_; rotate_left; (intro W hW; have f0 := cell_below hW d0; have f1 := cell_below hW d1; have f2 := cell_below hW d2; have f3 := cell_below hW d3; have f4 := cell_below hW d4; have f5 := cell_below hW co5; have f6 := cell_below hW cm5; have f7 := cell_below hW ca5; first | (go_simp; done) | (go_simp; with_reducible rfl)))
              (try simp only [Act.put, List.setIfInBounds_toArray, List.set_cons_zero, List.set_cons_succ])
              refine wpAnyH_done (by kernel_rfl) ?_ _
              have hMa := hM5.below hHeld
              have hba := below_trans' hb05 hHeld
              have HSa := HS1
              have HPa := HP1
              clear d0 d1 d2 d3 d4 co5 cm5 ca5 hM5 hHeld hb05 hwr hsub
              generalize gt xs1 (fin k (argN k j) - 1) = h at *
              go_wp2_with fail
              refine (HNXT.out j hlt _ hba).mono ?_
              rintro e w9 ⟨An, cn, rfl, hon, hb9⟩
              have hb09 := below_trans' hba hb9
              have HML9 := Lib.hid hMa.lt
              have hM9 := hMa.below hb9
              have hnl := nextL_len k j
              have HON := Lib.hid (fun V (h : Tch bo ba gx w9 V) => own_rd (h.own hon HML9.out.1 HML9.out.2.1 HML9.out.2.2.1))
              have HB9 := Lib.hid (fun V (h : Tch bo ba gx w9 V) => hb09.trans (h.below hb09.size hbo0 hba0 hgx0))
              generalize nextL k j = ns at *
              clear hb9 hMa hba hon hb09
              go_wp2_with fail
              obtain ⟨wo2, rfl⟩ : ∃ wo2 : World, wo2 = wr := ⟨_, rfl⟩
              go_loopg [89] ns.length (fun l i wr => ∃ (m : Nat) (t : List Nat) (nw : Bool), m ≤ ns.length ∧ l = ns.length - m ∧ i = .int .i64 m ∧ AK wr w.heap.size w.heap.size bo ba gx k.ins.length Am cm t nw ∧ MayS k t ∧ AtR k.ins.length xs0 nw t ∧ t = (ns.take m).foldl (aput ms h) xs1 ∧ Tch bo ba gx w9 wr)
              case atStart => exact ⟨0, xs1, nw1, by omega, by omega, rfl, hM9, HSa.out, HPa.out, rfl, Tch.refl _ _ _ _⟩
              case round =>
                clear hM9
                obtain ⟨m, t, nw, hm, rfl, rfl, hM2, hS2, hP2, ht, hT2⟩ := hrel
                have HTT := Lib.hid ht
                have HS2 := Lib.hid hS2
                have HP2 := Lib.hid hP2
                clear ht hS2 hP2
                by_cases hltm : m < ns.length
                · obtain ⟨adn, ean, _, hcn⟩ := (HON.out _ hT2).nat hltm
                  obtain ⟨hxl, hmay⟩ := HNX.out ns[m] (List.getElem_mem hltm)
                  have HMT := Lib.hid hmay
                  clear hmay
                  have HST := Lib.hid (fold_take (aput ms h) ns xs1 hltm)
                  generalize ns[m] = y at *
                  subst ean
                  have hty := HS2.out.lt HR.out y
                  have HPT := Lib.hid (may1_any w.heap.size bo ba gx k.ins.length y h Am cm ms t nw wr hM2 (HRM.out _ (HB9.out _ hT2)) HMSL.out hxl hins hh hty)
                  have HS3 := Lib.hid (HS2.out.put ms HMT.out (g := h))
                  have HP3 := Lib.hid (HP2.out.put ms (g := h) (x := y) (by rw [HS2.out.len]; exact hxl) HS2.out.len (fun i => HS3.out.lt HR.out i))
                  have z1 : (0 : Int) ≤ (m : Int) := by omega
                  have z2 : (m : Int) < (ns.length : Int) := by omega
                  clear hM2
                  go_wp2_with fail
                  refine HPT.out.mono ?_
                  rintro e w10 ⟨rfl, hM3, hT3⟩
                  go_wp2_with fail
                  go_roundg (ns.length - (m + 1))
                  case measure => omega
                  case rel => exact ⟨m + 1, aput ms h t y, nw || achg ms h t y, by omega, rfl, by go_num, hM3, HS3.out, HP3.out, by rw [HST.out, ← HTT.out], hT2.trans hT3⟩
                · obtain rfl : m = ns.length := by omega
                  have hb0 := HB9.out _ hT2
                  have HMP := Lib.hid (show t = (List.range (j + 1)).foldl (aplace k ms) xs0 from by
                    rw [List.range_succ, List.foldl_append, ← HFO.out]
                    exact (by rw [HTT.out, List.take_length]; exact HEQ.out))
                  go_wp2_with fail
                  go_roundg (k.ins.length - (j + 1))
                  case measure => omega
                  case rel => exact ⟨j + 1, t, nw, by omega, rfl, by go_num, hM2, HS2.out, HP2.out, HMP.out, hb0⟩
            · have e4 : (opN k j == 4) = false := by simpa using h4
              have HEQ := Lib.hid (show (nextL k j).foldl (aput ms (bhd (opN k j) (argN k j) (gt xs j))) xs = aplace k ms xs j from by unfold aplace; rw [if_pos hmk, if_neg h4])
              have HNX := Lib.hid (show ∀ y ∈ nextL k j, y < k.ins.length ∧ ∀ b, (bhd (opN k j) (argN k j) (gt xs j)).testBit b = true → MayP k b y from fun y hy => ⟨(nextL_in HR.out hlt hy).1, fun b hb => bhd_may HS.out HR.out HMJ.out h4 hy hb⟩)
              have hh := bhd_lt' HR.out hlt hhl
              by_cases h6 : opN k j = 6
              · have hal := argN_lt6 HR.out hlt (.inl h6)
                have hlk := HR.out.locks
                have HSV := (show bits .or .i64 (gt xs j : Int) (wrap64 ((2 : Int) ^ argN k j)) = ((bhd (opN k j) (argN k j) (gt xs j) : Nat) : Int) from by rw [bhd, if_pos h6, shl_one _ (by omega), i64_or_nat _ _ (by omega) (two_pow_lt _ (by omega))])
                rw [h6] at k0
                have e64 : ((6 : Int) == 4) = false := by decide
                have e67 : ((6 : Int) == 7) = false := by decide
                clear h6 e4
                generalize bhd (opN k j) (argN k j) (gt xs j) = h at *
                have bA := below_alloc0 wr (.cells #[.int .i64 6, .int .i64 (argN k j), .int .i64 k.ins[j].term.kind, .int .i64 k.ins[j].term.num, .string k.ins[j].term.name, .slice A' k.ins[j].term.kids.length c', .int .i64 k.ins[j].to] 96)
                have hba := below_trans' hb bA
                have hMa := hM.below bA
                have cm' := cell_below bA cmk
                have c1' := cell_below bA c1
                have co' := cell_below bA co
                have cx' := cell_below bA cx
                have HSa := HS
                have HPa := HP
                clear hmk h4 bA hb
                go_wp2_with fail
                clear cmk co cx c1 k0 k1 k2 k3 k4 k5 k6 hM cm' co' cx' c1'
                generalize wr.alloc (.cells #[.int .i64 6, .int .i64 (argN k j), .int .i64 k.ins[j].term.kind, .int .i64 k.ins[j].term.num, .string k.ins[j].term.name, .slice A' k.ins[j].term.kids.length c', .int .i64 k.ins[j].to] 96) = wa at *
                refine (HNXT.out j hlt _ hba).mono ?_
                rintro e w9 ⟨An, cn, rfl, hon, hb9⟩
                have hb09 := below_trans' hba hb9
                have HML9 := Lib.hid hMa.lt
                have hM9 := hMa.below hb9
                have hnl := nextL_len k j
                have HON := Lib.hid (fun V (h : Tch bo ba gx w9 V) => own_rd (h.own hon HML9.out.1 HML9.out.2.1 HML9.out.2.2.1))
                have HB9 := Lib.hid (fun V (h : Tch bo ba gx w9 V) => hb09.trans (h.below hb09.size hbo0 hba0 hgx0))
                generalize nextL k j = ns at *
                clear hb9 hMa hba hon hb09
                go_wp2_with fail
                obtain ⟨wo2, rfl⟩ : ∃ wo2 : World, wo2 = wr := ⟨_, rfl⟩
                go_loopg [89] ns.length (fun l i wr => ∃ (m : Nat) (t : List Nat) (nw : Bool), m ≤ ns.length ∧ l = ns.length - m ∧ i = .int .i64 m ∧ AK wr w.heap.size w.heap.size bo ba gx k.ins.length Am cm t nw ∧ MayS k t ∧ AtR k.ins.length xs0 nw t ∧ t = (ns.take m).foldl (aput ms h) xs ∧ Tch bo ba gx w9 wr)
                case atStart => exact ⟨0, xs, nw0, by omega, by omega, rfl, hM9, HSa.out, HPa.out, rfl, Tch.refl _ _ _ _⟩
                case round =>
                  clear hM9
                  obtain ⟨m, t, nw, hm, rfl, rfl, hM2, hS2, hP2, ht, hT2⟩ := hrel
                  have HTT := Lib.hid ht
                  have HS2 := Lib.hid hS2
                  have HP2 := Lib.hid hP2
                  clear ht hS2 hP2
                  by_cases hltm : m < ns.length
                  · obtain ⟨adn, ean, _, hcn⟩ := (HON.out _ hT2).nat hltm
                    obtain ⟨hxl, hmay⟩ := HNX.out ns[m] (List.getElem_mem hltm)
                    have HMT := Lib.hid hmay
                    clear hmay
                    have HST := Lib.hid (fold_take (aput ms h) ns xs hltm)
                    generalize ns[m] = y at *
                    subst ean
                    have hty := HS2.out.lt HR.out y
                    have HPT := Lib.hid (may1_any w.heap.size bo ba gx k.ins.length y h Am cm ms t nw wr hM2 (HRM.out _ (HB9.out _ hT2)) HMSL.out hxl hins hh hty)
                    have HS3 := Lib.hid (HS2.out.put ms HMT.out (g := h))
                    have HP3 := Lib.hid (HP2.out.put ms (g := h) (x := y) (by rw [HS2.out.len]; exact hxl) HS2.out.len (fun i => HS3.out.lt HR.out i))
                    have z1 : (0 : Int) ≤ (m : Int) := by omega
                    have z2 : (m : Int) < (ns.length : Int) := by omega
                    clear hM2
                    go_wp2_with fail
                    refine HPT.out.mono ?_
                    rintro e w10 ⟨rfl, hM3, hT3⟩
                    go_wp2_with fail
                    go_roundg (ns.length - (m + 1))
                    case measure => omega
                    case rel => exact ⟨m + 1, aput ms h t y, nw || achg ms h t y, by omega, rfl, by go_num, hM3, HS3.out, HP3.out, by rw [HST.out, ← HTT.out], hT2.trans hT3⟩
                  · obtain rfl : m = ns.length := by omega
                    have hb0 := HB9.out _ hT2
                    have HMP := Lib.hid (show t = (List.range (j + 1)).foldl (aplace k ms) xs0 from by
                      rw [List.range_succ, List.foldl_append, ← HFO.out]
                      exact (by rw [HTT.out, List.take_length]; exact HEQ.out))
                    go_wp2_with fail
                    go_roundg (k.ins.length - (j + 1))
                    case measure => omega
                    case rel => exact ⟨j + 1, t, nw, by omega, rfl, by go_num, hM2, HS2.out, HP2.out, HMP.out, hb0⟩
              · by_cases h7 : opN k j = 7
                · have hal := argN_lt6 HR.out hlt (.inr h7)
                  have hlk := HR.out.locks
                  have HSV := (show bits .andNot .i64 (gt xs j : Int) (wrap64 ((2 : Int) ^ argN k j)) = ((bhd (opN k j) (argN k j) (gt xs j) : Nat) : Int) from by rw [bhd, if_neg h6, if_pos h7, shl_one _ (by omega), i64_andNot_nat _ _ (by omega) (two_pow_lt _ (by omega))])
                  rw [h7] at k0
                  have e74 : ((7 : Int) == 4) = false := by decide
                  have e76 : ((7 : Int) == 6) = false := by decide
                  clear h6 h7 e4
                  generalize bhd (opN k j) (argN k j) (gt xs j) = h at *
                  have bA := below_alloc0 wr (.cells #[.int .i64 7, .int .i64 (argN k j), .int .i64 k.ins[j].term.kind, .int .i64 k.ins[j].term.num, .string k.ins[j].term.name, .slice A' k.ins[j].term.kids.length c', .int .i64 k.ins[j].to] 96)
                  have hba := below_trans' hb bA
                  have hMa := hM.below bA
                  have cm' := cell_below bA cmk
                  have c1' := cell_below bA c1
                  have co' := cell_below bA co
                  have cx' := cell_below bA cx
                  have HSa := HS
                  have HPa := HP
                  clear hmk h4 bA hb
                  go_wp2_with fail
                  clear cmk co cx c1 k0 k1 k2 k3 k4 k5 k6 hM cm' co' cx' c1'
                  generalize wr.alloc (.cells #[.int .i64 7, .int .i64 (argN k j), .int .i64 k.ins[j].term.kind, .int .i64 k.ins[j].term.num, .string k.ins[j].term.name, .slice A' k.ins[j].term.kids.length c', .int .i64 k.ins[j].to] 96) = wa at *
                  refine (HNXT.out j hlt _ hba).mono ?_
                  rintro e w9 ⟨An, cn, rfl, hon, hb9⟩
                  have hb09 := below_trans' hba hb9
                  have HML9 := Lib.hid hMa.lt
                  have hM9 := hMa.below hb9
                  have hnl := nextL_len k j
                  have HON := Lib.hid (fun V (h : Tch bo ba gx w9 V) => own_rd (h.own hon HML9.out.1 HML9.out.2.1 HML9.out.2.2.1))
                  have HB9 := Lib.hid (fun V (h : Tch bo ba gx w9 V) => hb09.trans (h.below hb09.size hbo0 hba0 hgx0))
                  generalize nextL k j = ns at *
                  clear hb9 hMa hba hon hb09
                  go_wp2_with fail
                  obtain ⟨wo2, rfl⟩ : ∃ wo2 : World, wo2 = wr := ⟨_, rfl⟩
                  go_loopg [89] ns.length (fun l i wr => ∃ (m : Nat) (t : List Nat) (nw : Bool), m ≤ ns.length ∧ l = ns.length - m ∧ i = .int .i64 m ∧ AK wr w.heap.size w.heap.size bo ba gx k.ins.length Am cm t nw ∧ MayS k t ∧ AtR k.ins.length xs0 nw t ∧ t = (ns.take m).foldl (aput ms h) xs ∧ Tch bo ba gx w9 wr)
                  case atStart => exact ⟨0, xs, nw0, by omega, by omega, rfl, hM9, HSa.out, HPa.out, rfl, Tch.refl _ _ _ _⟩
                  case round =>
                    clear hM9
                    obtain ⟨m, t, nw, hm, rfl, rfl, hM2, hS2, hP2, ht, hT2⟩ := hrel
                    have HTT := Lib.hid ht
                    have HS2 := Lib.hid hS2
                    have HP2 := Lib.hid hP2
                    clear ht hS2 hP2
                    by_cases hltm : m < ns.length
                    · obtain ⟨adn, ean, _, hcn⟩ := (HON.out _ hT2).nat hltm
                      obtain ⟨hxl, hmay⟩ := HNX.out ns[m] (List.getElem_mem hltm)
                      have HMT := Lib.hid hmay
                      clear hmay
                      have HST := Lib.hid (fold_take (aput ms h) ns xs hltm)
                      generalize ns[m] = y at *
                      subst ean
                      have hty := HS2.out.lt HR.out y
                      have HPT := Lib.hid (may1_any w.heap.size bo ba gx k.ins.length y h Am cm ms t nw wr hM2 (HRM.out _ (HB9.out _ hT2)) HMSL.out hxl hins hh hty)
                      have HS3 := Lib.hid (HS2.out.put ms HMT.out (g := h))
                      have HP3 := Lib.hid (HP2.out.put ms (g := h) (x := y) (by rw [HS2.out.len]; exact hxl) HS2.out.len (fun i => HS3.out.lt HR.out i))
                      have z1 : (0 : Int) ≤ (m : Int) := by omega
                      have z2 : (m : Int) < (ns.length : Int) := by omega
                      clear hM2
                      go_wp2_with fail
                      refine HPT.out.mono ?_
                      rintro e w10 ⟨rfl, hM3, hT3⟩
                      go_wp2_with fail
                      go_roundg (ns.length - (m + 1))
                      case measure => omega
                      case rel => exact ⟨m + 1, aput ms h t y, nw || achg ms h t y, by omega, rfl, by go_num, hM3, HS3.out, HP3.out, by rw [HST.out, ← HTT.out], hT2.trans hT3⟩
                    · obtain rfl : m = ns.length := by omega
                      have hb0 := HB9.out _ hT2
                      have HMP := Lib.hid (show t = (List.range (j + 1)).foldl (aplace k ms) xs0 from by
                        rw [List.range_succ, List.foldl_append, ← HFO.out]
                        exact (by rw [HTT.out, List.take_length]; exact HEQ.out))
                      go_wp2_with fail
                      go_roundg (k.ins.length - (j + 1))
                      case measure => omega
                      case rel => exact ⟨j + 1, t, nw, by omega, rfl, by go_num, hM2, HS2.out, HP2.out, HMP.out, hb0⟩
                · have e6 : (opN k j == 6) = false := by simpa using h6
                  have e7 : (opN k j == 7) = false := by simpa using h7
                  rw [show bhd (opN k j) (argN k j) (gt xs j) = gt xs j from by rw [bhd, if_neg h6, if_neg h7]] at HEQ HNX hh
                  clear h6 h7
                  generalize gt xs j = h at *
                  have bA := below_alloc0 wr (.cells #[.int .i64 (opN k j), .int .i64 (argN k j), .int .i64 k.ins[j].term.kind, .int .i64 k.ins[j].term.num, .string k.ins[j].term.name, .slice A' k.ins[j].term.kids.length c', .int .i64 k.ins[j].to] 96)
                  have hba := below_trans' hb bA
                  have hMa := hM.below bA
                  have cm' := cell_below bA cmk
                  have c1' := cell_below bA c1
                  have co' := cell_below bA co
                  have cx' := cell_below bA cx
                  have HSa := HS
                  have HPa := HP
                  clear hmk h4 bA hb
                  go_wp2_with fail
                  clear cmk co cx c1 k0 k1 k2 k3 k4 k5 k6 hM cm' co' cx' c1'
                  generalize wr.alloc (.cells #[.int .i64 (opN k j), .int .i64 (argN k j), .int .i64 k.ins[j].term.kind, .int .i64 k.ins[j].term.num, .string k.ins[j].term.name, .slice A' k.ins[j].term.kids.length c', .int .i64 k.ins[j].to] 96) = wa at *
                  clear e4 e6 e7
                  refine (HNXT.out j hlt _ hba).mono ?_
                  rintro e w9 ⟨An, cn, rfl, hon, hb9⟩
                  have hb09 := below_trans' hba hb9
                  have HML9 := Lib.hid hMa.lt
                  have hM9 := hMa.below hb9
                  have hnl := nextL_len k j
                  have HON := Lib.hid (fun V (h : Tch bo ba gx w9 V) => own_rd (h.own hon HML9.out.1 HML9.out.2.1 HML9.out.2.2.1))
                  have HB9 := Lib.hid (fun V (h : Tch bo ba gx w9 V) => hb09.trans (h.below hb09.size hbo0 hba0 hgx0))
                  generalize nextL k j = ns at *
                  clear hb9 hMa hba hon hb09
                  go_wp2_with fail
                  obtain ⟨wo2, rfl⟩ : ∃ wo2 : World, wo2 = wr := ⟨_, rfl⟩
                  go_loopg [89] ns.length (fun l i wr => ∃ (m : Nat) (t : List Nat) (nw : Bool), m ≤ ns.length ∧ l = ns.length - m ∧ i = .int .i64 m ∧ AK wr w.heap.size w.heap.size bo ba gx k.ins.length Am cm t nw ∧ MayS k t ∧ AtR k.ins.length xs0 nw t ∧ t = (ns.take m).foldl (aput ms h) xs ∧ Tch bo ba gx w9 wr)
                  case atStart => exact ⟨0, xs, nw0, by omega, by omega, rfl, hM9, HSa.out, HPa.out, rfl, Tch.refl _ _ _ _⟩
                  case round =>
                    clear hM9
                    obtain ⟨m, t, nw, hm, rfl, rfl, hM2, hS2, hP2, ht, hT2⟩ := hrel
                    have HTT := Lib.hid ht
                    have HS2 := Lib.hid hS2
                    have HP2 := Lib.hid hP2
                    clear ht hS2 hP2
                    by_cases hltm : m < ns.length
                    · obtain ⟨adn, ean, _, hcn⟩ := (HON.out _ hT2).nat hltm
                      obtain ⟨hxl, hmay⟩ := HNX.out ns[m] (List.getElem_mem hltm)
                      have HMT := Lib.hid hmay
                      clear hmay
                      have HST := Lib.hid (fold_take (aput ms h) ns xs hltm)
                      generalize ns[m] = y at *
                      subst ean
                      have hty := HS2.out.lt HR.out y
                      have HPT := Lib.hid (may1_any w.heap.size bo ba gx k.ins.length y h Am cm ms t nw wr hM2 (HRM.out _ (HB9.out _ hT2)) HMSL.out hxl hins hh hty)
                      have HS3 := Lib.hid (HS2.out.put ms HMT.out (g := h))
                      have HP3 := Lib.hid (HP2.out.put ms (g := h) (x := y) (by rw [HS2.out.len]; exact hxl) HS2.out.len (fun i => HS3.out.lt HR.out i))
                      have z1 : (0 : Int) ≤ (m : Int) := by omega
                      have z2 : (m : Int) < (ns.length : Int) := by omega
                      clear hM2
                      go_wp2_with fail
                      refine HPT.out.mono ?_
                      rintro e w10 ⟨rfl, hM3, hT3⟩
                      go_wp2_with fail
                      go_roundg (ns.length - (m + 1))
                      case measure => omega
                      case rel => exact ⟨m + 1, aput ms h t y, nw || achg ms h t y, by omega, rfl, by go_num, hM3, HS3.out, HP3.out, by rw [HST.out, ← HTT.out], hT2.trans hT3⟩
                    · obtain rfl : m = ns.length := by omega
                      have hb0 := HB9.out _ hT2
                      have HMP := Lib.hid (show t = (List.range (j + 1)).foldl (aplace k ms) xs0 from by
                        rw [List.range_succ, List.foldl_append, ← HFO.out]
                        exact (by rw [HTT.out, List.take_length]; exact HEQ.out))
                      go_wp2_with fail
                      go_roundg (k.ins.length - (j + 1))
                      case measure => omega
                      case rel => exact ⟨j + 1, t, nw, by omega, rfl, by go_num, hM2, HS2.out, HP2.out, HMP.out, hb0⟩
        · obtain rfl : j = k.ins.length := by omega
          have ca := (row_facts hM.again).1 0 _ rfl
          have bA := below_alloc0 wr (.cells #[.bool nw0] 4)
          have hbo4 := hM.lt
          have hne := hM.ne
          have HMK0 := Lib.hid (show AK (wr.alloc (.cells #[.bool nw0] 4)) w.heap.size w.heap.size bo wr.heap.size gx k.ins.length Am cm xs nw0 from ⟨(bA.block _ hbo4.2.2.2.2).trans hM.met, (bA.block bo hbo4.1).trans hM.out, heap_alloc_new wr _, own_below hM.rx bA, by omega⟩)
          have HB0 := Lib.hid (below_trans' hb bA)
          have hle : w.heap.size ≤ wr.heap.size := hb.size
          clear hM hb bA
          go_wp2_with fail
          go_roundg (2 * (63 * k.ins.length - xs.sum) + (if nw0 then 1 else 0))
          case measure =>
            cases nw0
            · rw [HP.out.no rfl]; simp
            · have := HP.out.yes rfl; simp; omega
          case rel => exact ⟨_, xs, nw0, rfl, HMK0.out, HS.out, fun h => by have h1 := HP.out.no h; have h2 := HFO.out; rw [h1] at h2 ⊢; exact h2.symm, rfl, hle, HB0.out⟩
end Go.Proofs.Ytfecdgjnncpcjaa
