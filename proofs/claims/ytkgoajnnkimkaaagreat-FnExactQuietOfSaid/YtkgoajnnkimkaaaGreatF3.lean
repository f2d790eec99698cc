/- Plain facts of effects, of what is held where a procedure begins, and of what is held for sure. No program is named. -/
import Derived.Test.YtkgoajnnkimkaaaGreatF1
import Derived.Test.YtkgoajnnkimkaaaGreatD7
import Derived.Test.YtkgoajnnkimkaaaGreatB5
set_option linter.unusedSimpArgs false
set_option linter.unusedVariables false
namespace Go.Proofs.YtkgoajnnkimkaaaGreat
open Classical

theorem arg6 {k : Cd} (hr : Right k) {a : Nat} (ha : a < k.ins.length) (h7 : opN k a = 7) : argN k a < 6 := by
  have := argN_lt6 hr ha (.inr h7)
  have := hr.locks
  omega
/-- The greatest flow is there. -/
theorem flow_ex {k : Cd} (hr : Right k) {es : List (Int × Int)} {p held : Nat} (hp : p < k.procs.length) : ∃ xs, IsFlow k es p held xs := by
  have hbit : ∀ i b, (gt ((List.range k.ins.length).map fun i => setN 6 fun b => ∃ ys, FlowSol k es p held ys ∧ (gt ys i).testBit b = true) i).testBit b = true ↔ ∃ ys, FlowSol k es p held ys ∧ (gt ys i).testBit b = true := fun i b => by
    rcases Nat.lt_or_ge i k.ins.length with h | h
    · have e : gt ((List.range k.ins.length).map fun i => setN 6 fun b => ∃ ys, FlowSol k es p held ys ∧ (gt ys i).testBit b = true) i = setN 6 fun b => ∃ ys, FlowSol k es p held ys ∧ (gt ys i).testBit b = true := by simp [gt, h]
      rw [e, testBit_setN_true]
      exact ⟨fun h => h.2, fun ⟨ys, hy, hb⟩ => ⟨lt_of_testBit (n := 6) (hy.le i) hb, ys, hy, hb⟩⟩
    · rw [gt_none (by simpa using h)]
      refine ⟨fun h => by simp at h, fun ⟨ys, hy, hb⟩ => ?_⟩
      rw [gt_none (by rw [hy.len]; exact h)] at hb
      simp at hb
  have hlen : ((List.range k.ins.length).map fun i => setN 6 fun b => ∃ ys, FlowSol k es p held ys ∧ (gt ys i).testBit b = true).length = k.ins.length := by simp
  generalize ((List.range k.ins.length).map fun i => setN 6 fun b => ∃ ys, FlowSol k es p held ys ∧ (gt ys i).testBit b = true) = X at hbit hlen
  have hlt : ∀ i, gt X i < 64 := fun i => (lt_two_pow_of_bits fun b hb => by
    obtain ⟨ys, hy, h⟩ := (hbit i b).1 hb
    exact lt_of_testBit (n := 6) (hy.le i) h : gt X i < 2 ^ 6)
  refine ⟨X, ⟨hlen, hlt, fun b hb => ?_, fun a n ha hn b hb => ?_⟩, fun ys hy => ⟨hy.len.trans hlen.symm, fun i b hb => (hbit i b).2 ⟨ys, hy, hb⟩⟩⟩
  · obtain ⟨ys, hy, h⟩ := (hbit _ b).1 hb
    exact hy.begin b h
  · obtain ⟨ys, hy, h⟩ := (hbit _ b).1 hb
    exact movedV_mono (fun c hc => (hbit a c).2 ⟨ys, hy, hc⟩) (hy.le a) (hlt a) (arg6 hr (live_in hr hp ha).1) b (hy.next a n ha hn b h)
section
variable {k : Cd} {es es' : List (Int × Int)} {p held : Nat}
theorem flowN_is (hr : Right k) (hp : p < k.procs.length) : IsFlow k es p held (flowN k es p held) := by
  have h := flow_ex hr (es := es) (held := held) hp
  rw [flowN, dif_pos h]
  exact Classical.choose_spec h
theorem flowN_len (hr : Right k) (hp : p < k.procs.length) : (flowN k es p held).length = k.ins.length := (flowN_is hr hp).sol.len
theorem flowN_lt (hr : Right k) (hp : p < k.procs.length) (i : Nat) : gt (flowN k es p held) i < 64 := (flowN_is hr hp).sol.le i
theorem flowN_held (hr : Right k) (hp : p < k.procs.length) {held' : Nat} (h : Sub held held') : SubL (flowN k es p held) (flowN k es p held') :=
  (flowN_is hr hp).top _ ⟨(flowN_is hr hp).sol.len, (flowN_is hr hp).sol.le, (flowN_is hr hp).sol.begin.trans h, (flowN_is hr hp).sol.next⟩
theorem movedV_tab {op : Int} {arg h : Nat} (hk : ∀ q, keepAt es q = keepAt es' q) (hg : ∀ q, Sub (genAt es q) (genAt es' q)) : Sub (movedV op arg es h) (movedV op arg es' h) := by
  unfold movedV
  split
  · exact Sub.refl _
  · split
    · exact Sub.refl _
    · split
      · rw [hk]; exact or_sub (sub_or_left _ _) ((hg _).trans (sub_or_right _ _))
      · exact Sub.refl _
theorem flowN_tab (hr : Right k) (hp : p < k.procs.length) (hk : ∀ q, keepAt es q = keepAt es' q) (hg : ∀ q, Sub (genAt es q) (genAt es' q)) : SubL (flowN k es p held) (flowN k es' p held) :=
  (flowN_is hr hp).top _ ⟨(flowN_is hr hp).sol.len, (flowN_is hr hp).sol.le, (flowN_is hr hp).sol.begin, fun a n ha hn => ((flowN_is hr hp).sol.next a n ha hn).trans (movedV_tab hk hg)⟩
end
/-- A round of the flow: pairs of a place and one behind it that are done; nothing has changed yet, or the sum is less. -/
structure FlR (k : Cd) (es : List (Int × Int)) (xs0 : List Nat) (done : List (Nat × Nat)) (nw : Bool) (xs : List Nat) : Prop where
  no : nw = false → xs = xs0 ∧ ∀ d ∈ done, Sub (gt xs0 d.2) (movedV (opN k d.1) (argN k d.1) es (gt xs0 d.1))
  yes : nw = true → xs.sum < xs0.sum
def pairsL (k : Cd) (ls : List Nat) : List (Nat × Nat) := ls.flatMap fun a => (nextL k a).map fun n => (a, n)
theorem pairsL_snoc (k : Cd) (ls : List Nat) (a : Nat) : pairsL k (ls ++ [a]) = pairsL k ls ++ (nextL k a).map fun n => (a, n) := by simp [pairsL]
section
variable {k : Cd} {es : List (Int × Int)} {xs0 xs : List Nat} {done : List (Nat × Nat)} {nw : Bool}
theorem FlR.refl : FlR k es xs0 [] false xs0 := ⟨fun _ => ⟨rfl, fun d h => by simp at h⟩, fun h => by simp at h⟩
theorem FlR.step (h : FlR k es xs0 done nw xs) {a n m : Nat} (hn : n < xs.length) (hm : nw = false → m = gt xs0 a) :
    FlR k es xs0 (done ++ [(a, n)]) (nw || gt xs n &&& movedV (opN k a) (argN k a) es m != gt xs n) (fstep (movedV (opN k a) (argN k a) es m) xs n) := by
  by_cases he : gt xs n &&& movedV (opN k a) (argN k a) es m = gt xs n
  · rw [fstep_same hn he, show (gt xs n &&& movedV (opN k a) (argN k a) es m != gt xs n) = false from by rw [he]; simp, Bool.or_false]
    refine ⟨fun hf => ⟨(h.no hf).1, fun d hd => ?_⟩, h.yes⟩
    rcases List.mem_append.1 hd with hd | hd
    · exact (h.no hf).2 d hd
    · rw [List.mem_singleton.1 hd]
      have h1 := sub_of_and he
      rw [hm hf, (h.no hf).1] at h1
      exact h1
  · rw [show (gt xs n &&& movedV (opN k a) (argN k a) es m != gt xs n) = true from by simpa using he, Bool.or_true]
    refine ⟨fun hf => by simp at hf, fun _ => ?_⟩
    have h1 := fstep_sum hn he
    cases nw
    · rw [← (h.no rfl).1]; exact h1
    · exact Nat.lt_trans h1 (h.yes rfl)
end
theorem Flowing.stop2 {k : Cd} {es : List (Int × Int)} {p held : Nat} {xs : List Nat} (h : Flowing k es p held xs) (hr : Right k) (hp : p < k.procs.length)
    (hf : ∀ d ∈ pairsL k (listN k.ins.length (LiveP k p)), Sub (gt xs d.2) (movedV (opN k d.1) (argN k d.1) es (gt xs d.1))) : xs = flowN k es p held :=
  (flowN_eq ⟨⟨h.len, h.le, h.begin, fun a n ha hn => hf (a, n) (by
    refine List.mem_flatMap.2 ⟨a, mem_listN.2 ⟨(live_in hr hp ha).1, ha⟩, ?_⟩
    exact List.mem_map.2 ⟨n, hn, rfl⟩)⟩, h.top⟩).symm

/- Effects. -/
/-- The table whose Gens are gs. -/
noncomputable def effL (k : Cd) (gs : List Nat) : List (Int × Int) := (List.range k.procs.length).map fun p => (((keepN k p : Nat) : Int), ((gt gs p : Nat) : Int))
section
variable {k : Cd} {gs hs : List Nat} {p : Nat}
theorem effL_len (k : Cd) (gs : List Nat) : (effL k gs).length = k.procs.length := by simp [effL]
theorem effL_get (hp : p < (effL k gs).length) : (effL k gs)[p] = (((keepN k p : Nat) : Int), ((gt gs p : Nat) : Int)) := by simp [effL]
theorem effL_set (hl : gs.length = k.procs.length) (hp : p < k.procs.length) (y : Nat) : effL k (gs.set p y) = (effL k gs).set p (((keepN k p : Nat) : Int), (y : Int)) := by
  refine List.ext_getElem (by simp [effL]) fun i h1 h2 => ?_
  have hi : i < k.procs.length := by simpa [effL] using h1
  rw [effL_get, List.getElem_set, gt_set (by omega)]
  split
  · rename_i e; subst e; rfl
  · rw [effL_get]
theorem keepAt_effL (k : Cd) (gs hs : List Nat) (q : Nat) : keepAt (effL k gs) q = keepAt (effL k hs) q := by
  unfold keepAt effL
  rw [List.getElem?_map, List.getElem?_map]
  rcases Nat.lt_or_ge q k.procs.length with h | h
  · simp [h]
  · simp [h]
theorem genAt_effL (q : Nat) (hl : gs.length = k.procs.length) : genAt (effL k gs) q = gt gs q := by
  unfold genAt effL
  rw [List.getElem?_map]
  rcases Nat.lt_or_ge q k.procs.length with h | h
  · simp [h]
  · rw [gt_none (by omega)]; simp [h]
theorem effL_ok (hs : ∀ i, gt gs i < 64) : ∀ e ∈ effL k gs, effB e = true := fun e he => by
  obtain ⟨p, _, rfl⟩ := List.mem_map.1 he
  simp [effB, isSetB_of_nat (keepN_lt k p), isSetB_of_nat (hs p)]
/-- What is held behind p for sure, by the table. -/
noncomputable def asked (k : Cd) (gs : List Nat) (p : Nat) : Nat := gt (flowN k (effL k gs) p 0) (fin k p - 1)
theorem asked_lt (hr : Right k) (hp : p < k.procs.length) : asked k gs p < 64 := flowN_lt hr hp _
theorem asked_mono (hr : Right k) (hp : p < k.procs.length) (h : SubL gs hs) (hl : gs.length = k.procs.length) : Sub (asked k gs p) (asked k hs p) :=
  (flowN_tab hr hp (keepAt_effL k gs hs) fun q => by rw [genAt_effL q hl, genAt_effL q (h.1.symm.trans hl)]; exact h.2 q).2 _
structure FixE (k : Cd) (hs : List Nat) : Prop where
  len : hs.length = k.procs.length
  le : ∀ i, gt hs i < 64
  fix : ∀ p, p < k.procs.length → Sub (gt hs p) (asked k hs p)
structure IsEff (k : Cd) (gs : List Nat) : Prop where
  fix : FixE k gs
  top : ∀ hs, FixE k hs → SubL hs gs
theorem IsEff.eq (h : IsEff k gs) (g : IsEff k hs) : gs = hs := subL_antisymm (g.top _ h.fix) (h.top _ g.fix)
noncomputable def genN (k : Cd) : List Nat := if h : ∃ gs, IsEff k gs then Classical.choose h else []
theorem genN_eq (h : IsEff k gs) : gs = genN k := by
  rw [genN, dif_pos ⟨gs, h⟩]
  exact h.eq (Classical.choose_spec (⟨gs, h⟩ : ∃ gs, IsEff k gs))
/-- What EffectsOf answers. -/
noncomputable def effN (k : Cd) : List (Int × Int) := effL k (genN k)
/-- On its way. -/
structure EffS (k : Cd) (gs : List Nat) : Prop where
  len : gs.length = k.procs.length
  le : ∀ i, gt gs i < 64
  down : ∀ p, p < k.procs.length → Sub (asked k gs p) (gt gs p)
  top : ∀ hs, FixE k hs → SubL hs gs
theorem effS0 (hr : Right k) : EffS k (List.replicate k.procs.length 63) := by
  refine ⟨by simp, fun i => ?_, fun p hp => ?_, fun hs h => ⟨by simp [h.len], fun i => ?_⟩⟩
  · rcases Nat.lt_or_ge i k.procs.length with h | h
    · rw [gt_replicate h]; omega
    · rw [gt_none (by simpa using h)]; omega
  · rw [gt_replicate hp]; exact sub_63 (asked_lt hr hp)
  · rcases Nat.lt_or_ge i k.procs.length with h1 | h1
    · rw [gt_replicate h1]; exact sub_63 (h.le i)
    · rw [gt_none (by rw [h.len]; exact h1)]; intro b hb; simp at hb
theorem EffS.step (h : EffS k gs) (hr : Right k) (hp : p < k.procs.length) : EffS k (gs.set p (asked k gs p)) := by
  have hsub : SubL (gs.set p (asked k gs p)) gs := subL_set (h.down p hp)
  have hlen : (gs.set p (asked k gs p)).length = k.procs.length := by rw [List.length_set]; exact h.len
  refine ⟨hlen, fun i => sub_lt (hsub.2 i) (h.le i), fun q hq => ?_, fun hs hh => ⟨hh.len.trans hlen.symm, fun i => ?_⟩⟩
  · rw [gt_set (by rw [h.len]; exact hp)]
    split
    · rename_i e; subst e; exact asked_mono hr hp hsub hlen
    · exact (asked_mono hr hq hsub hlen).trans (h.down q hq)
  · rw [gt_set (by rw [h.len]; exact hp)]
    split
    · rename_i e; subst e; exact (hh.fix p hp).trans (asked_mono hr hp (h.top hs hh) hh.len)
    · exact (h.top hs hh).2 i
theorem EffS.stop (h : EffS k gs) (hf : ∀ p, p < k.procs.length → asked k gs p = gt gs p) : gs = genN k :=
  genN_eq ⟨⟨h.len, h.le, fun p hp => by rw [hf p hp]; exact Sub.refl _⟩, h.top⟩
theorem genN_lt (h : gs = genN k) (hs : EffS k gs) (i : Nat) : gt (genN k) i < 64 := by rw [← h]; exact hs.le i
/-- A round over the procedures: nothing has changed yet, or the sum is less. -/
structure EfR (k : Cd) (gs0 : List Nat) (j : Nat) (nw : Bool) (gs : List Nat) : Prop where
  no : nw = false → gs = gs0 ∧ ∀ q, q < j → asked k gs0 q = gt gs0 q
  yes : nw = true → gs.sum < gs0.sum
theorem EfR.refl (k : Cd) (gs : List Nat) : EfR k gs 0 false gs := ⟨fun _ => ⟨rfl, fun q h => by omega⟩, fun h => by simp at h⟩
theorem EfR.same {gs0 : List Nat} {j : Nat} {nw : Bool} (h : EfR k gs0 j nw gs) (e : asked k gs j = gt gs j) : EfR k gs0 (j + 1) nw gs := by
  refine ⟨fun hf => ⟨(h.no hf).1, fun q hq => ?_⟩, h.yes⟩
  rcases Nat.lt_or_ge q j with h1 | h1
  · exact (h.no hf).2 q h1
  · obtain rfl : q = j := by omega
    rw [← (h.no hf).1]; exact e
theorem EfR.less {gs0 : List Nat} {j : Nat} {nw : Bool} (h : EfR k gs0 j nw gs) (hs : EffS k gs) (hp : j < k.procs.length) (e : asked k gs j ≠ gt gs j) : EfR k gs0 (j + 1) true (gs.set j (asked k gs j)) := by
  refine ⟨fun hf => by simp at hf, fun _ => ?_⟩
  have h1 := sum_set_lt (i := j) (y := asked k gs j) (by rw [hs.len]; exact hp) (by have := sub_le (hs.down j hp); omega)
  cases nw
  · rw [← (h.no rfl).1]; exact h1
  · exact Nat.lt_trans h1 (h.yes rfl)
end

/- What is held where a procedure begins. -/
structure FixB (k : Cd) (es : List (Int × Int)) (bs : List Nat) : Prop where
  len : bs.length = k.procs.length
  le : ∀ i, gt bs i < 64
  root : ∀ r, RootP k r → gt bs r = 0
  call : ∀ p a, UsedP k p → LiveP k p a → opN k a = 4 → Sub (gt bs (argN k a)) (gt (flowN k es p (gt bs p)) a)
structure IsEnt (k : Cd) (es : List (Int × Int)) (bs : List Nat) : Prop where
  fix : FixB k es bs
  top : ∀ cs, FixB k es cs → SubL cs bs
section
variable {k : Cd} {es : List (Int × Int)} {bs cs : List Nat} {p : Nat}
theorem IsEnt.eq (h : IsEnt k es bs) (g : IsEnt k es cs) : bs = cs := subL_antisymm (g.top _ h.fix) (h.top _ g.fix)
noncomputable def entN (k : Cd) (es : List (Int × Int)) : List Nat := if h : ∃ bs, IsEnt k es bs then Classical.choose h else []
theorem entN_eq (h : IsEnt k es bs) : bs = entN k es := by
  rw [entN, dif_pos ⟨bs, h⟩]
  exact h.eq (Classical.choose_spec (⟨bs, h⟩ : ∃ bs, IsEnt k es bs))
/-- On its way. -/
structure EntS (k : Cd) (es : List (Int × Int)) (bs : List Nat) : Prop where
  len : bs.length = k.procs.length
  le : ∀ i, gt bs i < 64
  root : ∀ r, RootP k r → gt bs r = 0
  top : ∀ cs, FixB k es cs → SubL cs bs
noncomputable def ent0 (k : Cd) (n : Nat) : List Nat := (List.range n).map fun p => if RootP k p then 0 else 63
theorem ent0_len (k : Cd) (n : Nat) : (ent0 k n).length = n := by simp [ent0]
theorem ent0_get {n : Nat} (h : p < n) : gt (ent0 k n) p = if RootP k p then 0 else 63 := by simp [ent0, gt, h]
theorem ent0_snoc (k : Cd) (n : Nat) : ent0 k (n + 1) = ent0 k n ++ [if RootP k n then 0 else 63] := by simp [ent0, List.range_succ]
theorem entS0 (hr : Right k) : EntS k es (ent0 k k.procs.length) := by
  refine ⟨ent0_len _ _, fun i => ?_, fun r h => by rw [ent0_get (root_lt hr h), if_pos h], fun cs hc => ⟨by rw [hc.len, ent0_len], fun i => ?_⟩⟩
  · rcases Nat.lt_or_ge i k.procs.length with h | h
    · rw [ent0_get h]; split <;> omega
    · rw [gt_none (by rw [ent0_len]; exact h)]; omega
  · rcases Nat.lt_or_ge i k.procs.length with h | h
    · rw [ent0_get h]
      split
      · rename_i h1; rw [hc.root i h1]; exact Sub.refl _
      · exact sub_63 (hc.le i)
    · rw [gt_none (by rw [hc.len]; exact h)]; intro b hb; simp at hb
theorem EntS.step (h : EntS k es bs) (hr : Right k) {a hd : Nat} (hp : p < k.procs.length) (hu : UsedP k p) (ha : LiveP k p a) (h4 : opN k a = 4) (hs : ∀ cs, FixB k es cs → Sub (gt cs p) hd) :
    EntS k es (fstep (gt (flowN k es p hd) a) bs (argN k a)) := by
  have hsub := fstep_sub (gt (flowN k es p hd) a) bs (argN k a)
  have hql := argN_lt hr (live_in hr hp ha).1 (.inl h4)
  refine ⟨hsub.1.trans h.len, fun i => sub_lt (hsub.2 i) (h.le i), fun r hrt => ?_, fun cs hc => ⟨(h.top cs hc).1.trans hsub.1.symm, fun i => ?_⟩⟩
  · have := sub_le (hsub.2 r)
    have := h.root r hrt
    omega
  · unfold fstep
    rw [gt_set (by rw [h.len]; exact hql)]
    split
    · rename_i e; subst e
      exact sub_and ((h.top cs hc).2 _) ((hc.call p a hu ha h4).trans ((flowN_held hr hp (hs cs hc)).2 a))
    · exact (h.top cs hc).2 i
/-- A round: pairs of a procedure and a place of it that are done. -/
structure EnR (k : Cd) (es : List (Int × Int)) (bs0 : List Nat) (done : List (Nat × Nat)) (nw : Bool) (bs : List Nat) : Prop where
  no : nw = false → bs = bs0 ∧ ∀ d ∈ done, opN k d.2 = 4 → Sub (gt bs0 (argN k d.2)) (gt (flowN k es d.1 (gt bs0 d.1)) d.2)
  yes : nw = true → bs.sum < bs0.sum
theorem EnR.refl {bs0 : List Nat} : EnR k es bs0 [] false bs0 := ⟨fun _ => ⟨rfl, fun d h => by simp at h⟩, fun h => by simp at h⟩
theorem EnR.skip {bs0 : List Nat} {done : List (Nat × Nat)} {nw : Bool} (h : EnR k es bs0 done nw bs) {a : Nat} (h4 : opN k a ≠ 4) : EnR k es bs0 (done ++ [(p, a)]) nw bs := by
  refine ⟨fun hf => ⟨(h.no hf).1, fun d hd => ?_⟩, h.yes⟩
  rcases List.mem_append.1 hd with hd | hd
  · exact (h.no hf).2 d hd
  · rw [List.mem_singleton.1 hd]; exact fun h => absurd h h4
theorem EnR.same {bs0 : List Nat} {done : List (Nat × Nat)} {nw : Bool} (h : EnR k es bs0 done nw bs) {a hd : Nat} (hm : nw = false → hd = gt bs0 p) (he : gt bs (argN k a) &&& gt (flowN k es p hd) a = gt bs (argN k a)) : EnR k es bs0 (done ++ [(p, a)]) nw bs := by
  refine ⟨fun hf => ⟨(h.no hf).1, fun d hd1 => ?_⟩, h.yes⟩
  rcases List.mem_append.1 hd1 with hd1 | hd1
  · exact (h.no hf).2 d hd1
  · rw [List.mem_singleton.1 hd1]
    intro h4
    have h1 := sub_of_and he
    rw [hm hf, (h.no hf).1] at h1
    exact h1
theorem EnR.less {bs0 : List Nat} {done : List (Nat × Nat)} {nw : Bool} (h : EnR k es bs0 done nw bs) {a h1 : Nat} (hq : argN k a < bs.length) (he : gt bs (argN k a) &&& h1 ≠ gt bs (argN k a)) : EnR k es bs0 (done ++ [(p, a)]) true (fstep h1 bs (argN k a)) := by
  refine ⟨fun hf => by simp at hf, fun _ => ?_⟩
  have h1 := fstep_sum hq he
  cases nw
  · rw [← (h.no rfl).1]; exact h1
  · exact Nat.lt_trans h1 (h.yes rfl)
noncomputable def livesL (k : Cd) (ps : List Nat) : List (Nat × Nat) := ps.flatMap fun p => (listN k.ins.length (LiveP k p)).map fun a => (p, a)
theorem livesL_snoc (k : Cd) (ps : List Nat) (p : Nat) : livesL k (ps ++ [p]) = livesL k ps ++ (listN k.ins.length (LiveP k p)).map fun a => (p, a) := by simp [livesL]
theorem EntS.stop (h : EntS k es bs) (hr : Right k) (hu : ∀ p, UsedP k p → p < k.procs.length) (hf : ∀ d ∈ livesL k (listN k.procs.length (UsedP k)), opN k d.2 = 4 → Sub (gt bs (argN k d.2)) (gt (flowN k es d.1 (gt bs d.1)) d.2)) : bs = entN k es :=
  entN_eq ⟨⟨h.len, h.le, h.root, fun p a hp ha h4 => hf (p, a) (List.mem_flatMap.2 ⟨p, mem_listN.2 ⟨hu p hp, hp⟩, List.mem_map.2 ⟨a, mem_listN.2 ⟨(live_in hr (hu p hp) ha).1, ha⟩, rfl⟩⟩) h4⟩, h.top⟩
end
/-- What is held for sure ahead of each place. -/
noncomputable def mustF (k : Cd) (es : List (Int × Int)) (bs : List Nat) (a : Nat) : Nat := if UsedP k (procN k a) then gt (flowN k es (procN k a) (gt bs (procN k a))) a else 63
noncomputable def mustN (k : Cd) : List Nat := (List.range k.ins.length).map fun a => mustF k (effN k) (entN k (effN k)) a
theorem mustN_len (k : Cd) : (mustN k).length = k.ins.length := by simp [mustN]
theorem mustN_get {k : Cd} {a : Nat} (h : a < k.ins.length) : gt (mustN k) a = mustF k (effN k) (entN k (effN k)) a := by simp [gt, mustN, h]
end Go.Proofs.YtkgoajnnkimkaaaGreat
