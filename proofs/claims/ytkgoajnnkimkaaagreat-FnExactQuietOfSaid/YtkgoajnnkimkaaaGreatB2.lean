/- From a law's walk to its row: a law that returns true and changes nothing that was there. -/
import Derived.Test.YtkgoajnnkimkaaaGreatRows
import Derived.WalkKit
import Derived.ProofKit
import Derived.OpenShut
import Derived.Below
import Derived.ChangeSame
import Derived.Carry
import Derived.Test.YtkgoajnnkimkaaaGreatA2
import Derived.Test.YtkgoajnnkimkaaaGreatA1
import Derived.ChangeSlices
import Derived.Lib.SmallJoins
import Derived.Deep.Strs
set_option linter.unusedSimpArgs false
set_option linter.unusedVariables false
namespace Go.Proofs.YtkgoajnnkimkaaaGreat
open Go.ChangeShapes Go.WideShapes Go.ChangeAt Go.RowKit

theorem laidOut : laidOutB Tryz.prog = true := by kernel_rfl
theorem own : ownKnob Tryz.prog.godebug = none := by kernel_rfl

section
variable {H : Type} {enc : TypeId × Value → H} {P : Program}
theorem trodAll_stays (hl : laidOutB P = true) {W W' : World} (hb : Below W.heap.size W W') {sp' : Nat → Bool} : ∀ {ts : List TypeId} {vs : List Value} {ds : List (DataW H)} {ps : List MemPlace},
    (ts.all fun t => P.readableRec t && decide (t < P.types.size)) = true →
    DataW.TrodAll enc P W 0 (fun _ => true) true ts vs ds ps → (∀ p ∈ ps, p.block < W.heap.size) → (∀ p ∈ ps, sp' p.block = true) → DataW.TrodAll enc P W' 0 sp' true ts vs ds ps
  | [], vs, ds, ps, _, h, _, _ => by
      obtain ⟨rfl, rfl, rfl⟩ := trodAll_nil h
      exact trodAll_mk0
  | t :: ts, vs, ds, ps, ht, h, hlt, hs => by
      obtain ⟨v, vs', d, ds', p, q, rfl, rfl, rfl, h1, h2⟩ := trodAll_cons h
      simp only [List.all_cons, Bool.and_eq_true, decide_eq_true_eq] at ht
      refine trodAll_cons_mk (WideElems.Trod_stays hl ht.1.1 ht.1.2 h1 (fun x hx => hb.same (hlt x (by simp [hx]))) (fun x hx => hs x (by simp [hx]))) ?_
      exact trodAll_stays hl hb ht.2 h2 (fun x hx => hlt x (by simp [hx])) (fun x hx => hs x (by simp [hx]))

theorem post_of_law {f : Func} {s : ChangeSpec} {apart fresh handsOn again : Bool} {W W' : World} {args : Array Value} {ds gs : List (DataW H)} {before : List MemPlace} {bt : TypeId}
    (hl : laidOutB P = true) (hv : s.vars = []) (hbt : P.underlying bt = some .bool) (hf : f.resultTypes = #[bt]) (hp : (f.params.toList.all fun t => P.readableRec t && decide (t < P.types.size)) = true)
    (hfn : ∀ ds : List (DataW H), ds.length = f.params.toList.length → (s.fn H ds).results = [.lit (.bool true)] ∧ (s.fn H ds).args = ds ∧ (s.fn H ds).vars = [])
    (hW : DataW.Whole enc P f.params.toList s.vars apart W args.toList ds gs before) (hb : Below W.heap.size W W') :
    s.post enc P f apart fresh handsOn again W args (.bool true) W' := by
  have hlt : ∀ p ∈ before, p.block < W.heap.size := fun p hp => hW.lt p hp
  have hold : ∀ p ∈ before, (fun b => decide (b < W.heap.size)) p.block = true := fun p hp => by simpa using hlt p hp
  have hW0 := hW
  obtain ⟨p, q, hA, hV, hps, hz, hn⟩ := hW
  rw [hv] at hV
  obtain ⟨rfl, rfl⟩ := trodVars_none hV
  rw [List.append_nil] at hps
  subst hps
  have hlen : ds.length = f.params.toList.length := by
    clear hz hn hlt hold hb hW0 hV hp hfn hf
    generalize args.toList = vs at hA
    generalize f.params.toList = ts at hA
    induction ts generalizing vs ds before with
    | nil => obtain ⟨rfl, rfl, rfl⟩ := trodAll_nil hA; rfl
    | cons t ts ih =>
      obtain ⟨v, vs', d, ds', p, q, rfl, rfl, rfl, h1, h2⟩ := trodAll_cons hA
      simp [ih _ h2]
  obtain ⟨r1, r2, r3⟩ := hfn ds hlen
  have hres : ∀ (b : Nat) (sp : Nat → Bool) (hd : Bool), DataW.TrodAll enc P W' b sp hd f.resultTypes.toList ((Value.bool true).resultList f.resultTypes.size) (s.fn H (ds ++ [])).results [] := by
    intro b sp hd
    rw [List.append_nil, r1, hf]
    exact trodAll_cons_mk (shut_bool hbt _) trodAll_mk0
  have hargs : ∀ sp : Nat → Bool, (∀ p ∈ before, sp p.block = true) → DataW.TrodAll enc P W' 0 sp true f.params.toList args.toList (s.fn H (ds ++ [])).args before := by
    intro sp hsp
    rw [List.append_nil, r2]
    exact trodAll_stays hl hb hp hA hlt hsp
  have hvars : ∀ sp : Nat → Bool, DataW.TrodVars enc P W' sp s.vars (s.fn H (ds ++ [])).vars [] := by
    intro sp
    rw [List.append_nil, r3, hv]
    exact rfl
  refine ⟨ds, [], before, [], before, [], hW0, hres _ _ _, hargs _ hold, hvars _, World.keptBut_mono (fun p hp => ⟨hp, Or.inr (by simpa using hp)⟩) (hb.frame (· ∈ before)), fun _ => ?_⟩
  refine ⟨?_, _, _, ([] ++ before) ++ [], ⟨[] ++ before, [], trodAll_append (hargs _ (fun _ _ => rfl)) (hres _ _ _), hvars _, rfl, ?_, ?_⟩, ?_⟩
  · intro j t r ht hr
    rw [hf] at ht hr
    rcases j with _ | j
    · simp at ht
      subst ht
      simp [Value.resultList] at hr
      subst hr
      exact okWide_bool_mk hbt _
    · simp at ht
  · intro b off hp
    have hin : MemPlace.cell b off ∈ before := by simpa using hp
    rw [hb.frozen (hlt _ hin)]
    exact hz b off hin
  · intro ha
    have := hn ha
    simpa using this
  · intro p hp _
    simpa using hp
end
end Go.Proofs.YtkgoajnnkimkaaaGreat
/- What a law is handed, read as lists: from the row's reading of an argument to the cells that the walk wants. -/
set_option linter.unusedSimpArgs false
set_option linter.unusedVariables false
namespace Go.Proofs.YtkgoajnnkimkaaaGreat
open Go.ChangeShapes Go.WideShapes Go.ChangeAt Go.RowKit

theorem fits_of_wf {n : Int} (h : (Lit.int .i64 n).wf = true) : Fits n := by
  simp [Lit.wf, IntKind.min, IntKind.max, IntKind.bits, IntKind.signed] at h
  unfold Fits
  omega

theorem cells_int : Tryz.prog.cellsOf 3 = 1 := by kernel_rfl

section
variable {H : Type} {enc : TypeId × Value → H} {W : World} {sp : Nat → Bool} {held : Bool}
theorem rd_ints {fuel : Nat} {cs : List Value} {x : DataW H × List MemPlace} (h : DataW.trod enc Tryz.prog W 0 sp held fuel 25 cs = some x) :
    ∃ (A : Option Addr) (c : Nat) (zs : List Int), cs = [.slice A zs.length c] ∧ Rd W W.heap.size A (zs.map iv) ∧ zs.length ≤ 9223372036854775807 ∧ ∀ n ∈ zs, Fits n := by
  rcases open_ints Tryz.underlying25 Tryz.underlying3 cells_int h with ⟨rfl, rfl⟩ | ⟨a, len, cap, zs, rfl, _, hlc, hcm, hzl, rfl, hcell, hwf⟩
  · exact ⟨none, 0, [], rfl, Rd.nil, by simp, by simp⟩
  · have hle : len ≤ zs.length := by rw [hzl]; split <;> omega
    unfold maxLen at hcm
    refine ⟨some a, cap, zs.take len, by simp [Nat.min_eq_left hle], ?_, by simp; omega, fun n hn => fits_of_wf (hwf n (List.mem_of_mem_take hn))⟩
    intro j u hu
    simp only [List.getElem?_map, List.getElem?_take] at hu
    by_cases hj : j < len
    · rw [if_pos hj, List.getElem?_eq_getElem (by omega)] at hu
      simp at hu
      subst hu
      have hc := hcell j (by omega)
      rw [List.getD_eq_getElem?_getD, List.getElem?_eq_getElem (by omega)] at hc
      have hb := World.block_lt_of_cell? W _ hc
      rw [block_of_add] at hb
      exact ⟨a, rfl, hb, hc⟩
    · rw [if_neg hj] at hu
      simp at hu
set_option maxRecDepth 100000 in
theorem slice_cells {t e : TypeId} {v : Value} {r : Go.Reach} {b : Nat} (ht : Tryz.prog.underlying t = some (.slice e)) (hv : Value.okWide Tryz.prog W r b t v) : v.cells.toList = [v] := by
  obtain ⟨a, l, c, rfl⟩ := okWide_slice ht hv
  rfl
end
end Go.Proofs.YtkgoajnnkimkaaaGreat
/- What a law is handed as code, read as data. -/
set_option linter.unusedSimpArgs false
set_option linter.unusedVariables false
namespace Go.Proofs.YtkgoajnnkimkaaaGreat
open Go.ChangeShapes Go.WideShapes Go.ChangeAt Go.RowKit

theorem cells_str : Tryz.prog.cellsOf 9 = 1 := by kernel_rfl
theorem cells_lterm : Tryz.prog.cellsOf 143 = 4 := by kernel_rfl
theorem cells_lterms : Tryz.prog.cellsOf 141 = 1 := by kernel_rfl
theorem cells_lcode : Tryz.prog.cellsOf 55 = 5 := by kernel_rfl
theorem cells_strs : Tryz.prog.cellsOf 24 = 1 := by kernel_rfl
theorem cells_ints : Tryz.prog.cellsOf 25 = 1 := by kernel_rfl
theorem cells_linss : Tryz.prog.cellsOf 53 = 1 := by kernel_rfl
theorem cells_lins : Tryz.prog.cellsOf 145 = 7 := by kernel_rfl

section
variable {H : Type} {enc : TypeId × Value → H} {W : World} {sp : Nat → Bool} {held : Bool}
theorem rd_ints' {fuel : Nat} {cs : List Value} {x : DataW H × List MemPlace} (h : DataW.trod enc Tryz.prog W 0 sp held fuel 25 cs = some x) :
    ∃ (A : Option Addr) (c : Nat) (zs : List Int), cs = [.slice A zs.length c] ∧ zs.length ≤ c ∧ Rd W W.heap.size A (zs.map iv) ∧ zs.length ≤ 9223372036854775807 ∧ ∀ n ∈ zs, Fits n := by
  have h' := h
  obtain ⟨A, c, zs, rfl, h1, h2, h3⟩ := rd_ints h
  refine ⟨A, c, zs, rfl, ?_, h1, h2, h3⟩
  rcases open_ints Tryz.underlying25 Tryz.underlying3 cells_int h' with ⟨e, _⟩ | ⟨a, len, cap, zs', e, _, hlc, _⟩
  · injection e with e
    injection e with _ e2 e3
    omega
  · injection e with e
    injection e with _ e2 e3
    omega
theorem rd_strs {fuel : Nat} {cs : List Value} {x : DataW H × List MemPlace} (h : DataW.trod enc Tryz.prog W 0 sp held fuel 24 cs = some x) :
    ∃ (A : Option Addr) (c : Nat) (zs : List ByteArray), cs = [.slice A zs.length c] ∧ zs.length ≤ c ∧ Rd W W.heap.size A (zs.map sv) ∧ zs.length ≤ 9223372036854775807 ∧ ∀ s ∈ zs, s.size ≤ 9223372036854775807 := by
  rcases Deep.open_strs Tryz.underlying24 Tryz.underlying9 cells_str h with ⟨rfl, rfl⟩ | ⟨a, len, cap, m, Sx, rfl, _, hlc, hcm, hm, rfl, hx⟩
  · exact ⟨none, 0, [], rfl, by simp, Rd.nil, by simp, by simp⟩
  · have hle : len ≤ m := by rw [hm]; split <;> omega
    unfold maxLen at hcm
    refine ⟨some a, cap, (List.range len).map Sx, by simp, by simpa using hlc, ?_, by simp; omega, ?_⟩
    · intro j u hu
      simp only [List.getElem?_map, List.map_map] at hu
      by_cases hj : j < len
      · rw [List.getElem?_range hj] at hu
        simp at hu
        subst hu
        have hc := (hx j (by omega)).1
        have hb := World.block_lt_of_cell? W _ hc
        rw [block_of_add] at hb
        exact ⟨a, rfl, hb, hc⟩
      · rw [List.getElem?_eq_none (by simp; omega)] at hu
        simp at hu
    · intro s hs
      simp only [List.mem_map, List.mem_range] at hs
      obtain ⟨i, hi, rfl⟩ := hs
      have := (hx i (by omega)).2
      unfold maxLen at this
      omega

/-- The elements of a slice, whatever they are, each opened by itself. -/
theorem open_elems {t e : TypeId} {size : Nat} {fuel : Nat} {cs : List Value} {x : DataW H × List MemPlace} (ht : Tryz.prog.underlying t = some (.slice e)) (hC : Tryz.prog.cellsOf e = size) (h : DataW.trod enc Tryz.prog W 0 sp held fuel t cs = some x) :
    ∃ (A : Option Addr) (c n : Nat), cs = [.slice A n c] ∧ n ≤ c ∧ n ≤ 9223372036854775807 ∧ ∀ i, i < n → ∃ cs' f y, f < fuel ∧ Row W W.heap.size A (i * size) cs' ∧ DataW.trod enc Tryz.prog W 0 sp held f e cs' = some y := by
  rcases DataW.trod_slice ht h with ⟨rfl, rfl⟩ | ⟨a, len, cap, elems, rest, n, rfl, rfl, rfl, _, hl, hm, hlen, hel, _⟩
  · exact ⟨none, 0, 0, rfl, by omega, by omega, fun i hi => by omega⟩
  · unfold maxLen at hm
    refine ⟨some a, cap, len, rfl, hl, by omega, fun i hi => ?_⟩
    have h1 := hel i hi
    rw [List.getElem?_eq_getElem (by omega), hC] at h1
    obtain ⟨cs', hc, ht'⟩ := Option.bind_eq_some_iff.1 h1
    obtain ⟨_, hcl, hat⟩ := World.cells?_some hc
    refine ⟨cs', n, _, by omega, ?_, ht'⟩
    intro j u hu
    have hj : j < size := by rw [← hcl]; exact (List.getElem?_eq_some_iff.1 hu).1
    have hcell := hat j hj
    rw [hu, add_of_add] at hcell
    have hb := World.block_lt_of_cell? W _ hcell
    rw [block_of_add] at hb
    exact ⟨a, rfl, hb, hcell⟩

theorem list_of {α : Type} {p : Nat → α → Prop} {n : Nat} (h : ∀ i, i < n → ∃ x, p i x) : ∃ xs : List α, xs.length = n ∧ ∀ i (hi : i < xs.length), p i xs[i] := by
  induction n with
  | zero => exact ⟨[], rfl, fun i hi => by simp at hi⟩
  | succ n ih =>
    obtain ⟨xs, hl, hx⟩ := ih fun i hi => h i (by omega)
    obtain ⟨x, hp⟩ := h n (by omega)
    refine ⟨xs ++ [x], by simp [hl], fun i hi => ?_⟩
    by_cases e : i < xs.length
    · rw [List.getElem_append_left e]
      exact hx i e
    · have : i = n := by simp at hi; omega
      subst this
      rw [List.getElem_append_right (by omega)]
      simpa [hl] using hp

set_option maxRecDepth 100000 in
theorem tm_open : ∀ (fuel : Nat) {cs : List Value} {x : DataW H × List MemPlace}, DataW.trod enc Tryz.prog W 0 sp held fuel 143 cs = some x → ∃ t : Tm, TmAt W W.heap.size t cs ∧ TmB 9223372036854775807 t := by
  intro fuel
  induction fuel using Nat.strongRecOn with
  | ind fuel ih =>
    intro cs x h
    obtain ⟨xs, n, rfl, _, hcl, hxl, hf⟩ := DataW.trod_struct Tryz.underlying143 h
    rw [cells_lterm] at hcl
    match cs, hcl with
    | [c0, c1, c2, c3], _ =>
      have f0 : DataW.trod enc Tryz.prog W 0 sp held n 3 (([c0, c1, c2, c3].drop 0).take (Tryz.prog.cellsOf 3)) = xs[0]? := hf 0 _ rfl
      have f1 : DataW.trod enc Tryz.prog W 0 sp held n 3 (([c0, c1, c2, c3].drop 1).take (Tryz.prog.cellsOf 3)) = xs[1]? := hf 1 _ rfl
      have f2 : DataW.trod enc Tryz.prog W 0 sp held n 9 (([c0, c1, c2, c3].drop 2).take (Tryz.prog.cellsOf 9)) = xs[2]? := hf 2 _ rfl
      have f3 : DataW.trod enc Tryz.prog W 0 sp held n 141 (([c0, c1, c2, c3].drop 3).take (Tryz.prog.cellsOf 141)) = xs[3]? := hf 3 _ rfl
      have hxl4 : xs.length = 4 := hxl
      rw [cells_int, List.getElem?_eq_getElem (by omega)] at f0 f1
      rw [cells_str, List.getElem?_eq_getElem (by omega)] at f2
      rw [cells_lterms, List.getElem?_eq_getElem (by omega)] at f3
      simp only [List.drop_zero, List.drop_succ_cons, List.take_succ_cons, List.take_zero] at f0 f1 f2 f3
      obtain ⟨k, e0, _, w0⟩ := DataW.trod_int Tryz.underlying3 f0
      obtain ⟨m, e1, _, w1⟩ := DataW.trod_int Tryz.underlying3 f1
      obtain ⟨s, e2, _, w2⟩ := DataW.trod_string Tryz.underlying9 f2
      obtain ⟨A, c, len, e3, _, hlen, hel⟩ := open_elems Tryz.underlying141 cells_lterm f3
      obtain ⟨ts, htl, hts⟩ := list_of (p := fun i (y : Tm × List Value) => Row W W.heap.size A (i * 4) y.2 ∧ TmAt W W.heap.size y.1 y.2 ∧ TmB 9223372036854775807 y.1) (n := len) fun i hi => by
        obtain ⟨cs', f, y, hf, hr, ht⟩ := hel i hi
        obtain ⟨t, h1, h2⟩ := ih f (by omega) ht
        exact ⟨(t, cs'), hr, h1, h2⟩
      injection e0 with e0
      injection e1 with e1
      injection e2 with e2
      injection e3 with e3
      subst e0 e1 e2 e3 htl
      unfold maxLen at w2
      refine ⟨.mk k m s (ts.map (·.1)), ?_, .mk _ _ _ _ (fits_of_wf w0) (fits_of_wf w1) (by omega) (by simpa using hlen) (fun i hi => ?_)⟩
      · have := TmAt.mk (w := W) (B := W.heap.size) k m s (ts.map (·.1)) A c (fun i => (ts.map (·.2)).getD i [])
          (fun i hi => by
            have hi' : i < ts.length := by simpa using hi
            have := (hts i hi').1
            simpa [hi'] using this)
          (fun i hi => by
            have hi' : i < ts.length := by simpa using hi
            have := (hts i hi').2.1
            simpa [hi'] using this)
        simpa using this
      · have hi' : i < ts.length := by simpa using hi
        simpa using (hts i hi').2.2

set_option maxRecDepth 100000 in
theorem ins_open {fuel : Nat} {cs : List Value} {x : DataW H × List MemPlace} (h : DataW.trod enc Tryz.prog W 0 sp held fuel 145 cs = some x) :
    ∃ (y : Is) (ts : List Value), cs = .int .i64 y.op :: .int .i64 y.arg :: (ts ++ [.int .i64 y.to]) ∧ TmAt W W.heap.size y.term ts ∧ IsB 9223372036854775807 y := by
  obtain ⟨xs, n, rfl, _, hcl, hxl, hf⟩ := DataW.trod_struct Tryz.underlying145 h
  rw [cells_lins] at hcl
  match cs, hcl with
  | [c0, c1, c2, c3, c4, c5, c6], _ =>
    have f0 : DataW.trod enc Tryz.prog W 0 sp held n 3 (([c0, c1, c2, c3, c4, c5, c6].drop 0).take (Tryz.prog.cellsOf 3)) = xs[0]? := hf 0 _ rfl
    have f1 : DataW.trod enc Tryz.prog W 0 sp held n 3 (([c0, c1, c2, c3, c4, c5, c6].drop 1).take (Tryz.prog.cellsOf 3)) = xs[1]? := hf 1 _ rfl
    have f2 : DataW.trod enc Tryz.prog W 0 sp held n 143 (([c0, c1, c2, c3, c4, c5, c6].drop 2).take (Tryz.prog.cellsOf 143)) = xs[2]? := hf 2 _ rfl
    have f3 : DataW.trod enc Tryz.prog W 0 sp held n 3 (([c0, c1, c2, c3, c4, c5, c6].drop 6).take (Tryz.prog.cellsOf 3)) = xs[3]? := hf 3 _ rfl
    have hxl4 : xs.length = 4 := hxl
    rw [cells_int, List.getElem?_eq_getElem (by omega)] at f0 f1 f3
    rw [cells_lterm, List.getElem?_eq_getElem (by omega)] at f2
    simp only [List.drop_zero, List.drop_succ_cons, List.take_succ_cons, List.take_zero] at f0 f1 f2 f3
    obtain ⟨o, e0, _, w0⟩ := DataW.trod_int Tryz.underlying3 f0
    obtain ⟨a, e1, _, w1⟩ := DataW.trod_int Tryz.underlying3 f1
    obtain ⟨t, ht, hb⟩ := tm_open n f2
    obtain ⟨z, e3, _, w3⟩ := DataW.trod_int Tryz.underlying3 f3
    injection e0 with e0
    injection e1 with e1
    injection e3 with e3
    subst e0 e1 e3
    exact ⟨⟨o, a, t, z⟩, _, rfl, ht, fits_of_wf w0, fits_of_wf w1, hb, fits_of_wf w3⟩

theorem inss_open {fuel : Nat} {cs : List Value} {x : DataW H × List MemPlace} (h : DataW.trod enc Tryz.prog W 0 sp held fuel 53 cs = some x) :
    ∃ (A : Option Addr) (c : Nat) (ins : List Is), cs = [.slice A ins.length c] ∧ ins.length ≤ c ∧ InsAt W W.heap.size A ins ∧ ins.length ≤ 9223372036854775807 ∧ ∀ y ∈ ins, IsB 9223372036854775807 y := by
  obtain ⟨A, c, len, rfl, hlc, hlen, hel⟩ := open_elems Tryz.underlying53 cells_lins h
  obtain ⟨ts, htl, hts⟩ := list_of (p := fun i (y : Is × List Value) => Row W W.heap.size A (i * 7) (.int .i64 y.1.op :: .int .i64 y.1.arg :: (y.2 ++ [.int .i64 y.1.to])) ∧ TmAt W W.heap.size y.1.term y.2 ∧ IsB 9223372036854775807 y.1) (n := len) fun i hi => by
    obtain ⟨cs', f, y, hf, hr, ht⟩ := hel i hi
    obtain ⟨t, us, e, h1, h2⟩ := ins_open ht
    rw [e] at hr
    exact ⟨(t, us), hr, h1, h2⟩
  subst htl
  refine ⟨A, c, ts.map (·.1), by simp, by simpa using hlc, ⟨fun i => (ts.map (·.2)).getD i [], fun i hi => ?_⟩, by simpa using hlen, ?_⟩
  · have hi' : i < ts.length := by simpa using hi
    obtain ⟨h1, h2, _⟩ := hts i hi'
    constructor
    · simpa [hi'] using h1
    · simpa [hi'] using h2
  · intro y hy
    obtain ⟨p, hp, rfl⟩ := List.mem_map.1 hy
    obtain ⟨i, hi, rfl⟩ := List.getElem_of_mem hp
    exact (hts i hi).2.2

set_option maxRecDepth 100000 in
theorem code_open {r : Go.Reach} {b0 : Nat} {v : Value} {d : DataW H} {p : List MemPlace} (hv : Value.okWide Tryz.prog W r b0 55 v) (h : DataW.Trod enc Tryz.prog W 0 sp held 55 v d p) :
    ∃ (u : CV) (k : Cd), v = .agg #[.slice u.gA k.globals.length u.gc, .slice u.lA k.locks.length u.lc, .slice u.pA k.procs.length u.pc, .slice u.eA k.entry.length u.ec, .slice u.iA k.ins.length u.ic] ∧ CodeAt W W.heap.size u k ∧ CdB 9223372036854775807 k := by
  obtain ⟨⟨l⟩, rfl, hsz⟩ := okWide_struct Tryz.underlying55 hv
  have hl : l.length = 5 := hsz.trans cells_lcode
  match l, hl with
  | [v0, v1, v2, v3, v4], _ =>
  obtain ⟨fuel, hf⟩ := h
  obtain ⟨xs, n, _, _, _, hxl, hg⟩ := DataW.trod_struct Tryz.underlying55 hf
  have h0 : DataW.trod enc Tryz.prog W 0 sp held n 24 (([v0, v1, v2, v3, v4].drop 0).take (Tryz.prog.cellsOf 24)) = xs[0]? := hg 0 _ rfl
  have h1 : DataW.trod enc Tryz.prog W 0 sp held n 24 (([v0, v1, v2, v3, v4].drop 1).take (Tryz.prog.cellsOf 24)) = xs[1]? := hg 1 _ rfl
  have h2 : DataW.trod enc Tryz.prog W 0 sp held n 24 (([v0, v1, v2, v3, v4].drop 2).take (Tryz.prog.cellsOf 24)) = xs[2]? := hg 2 _ rfl
  have h3 : DataW.trod enc Tryz.prog W 0 sp held n 25 (([v0, v1, v2, v3, v4].drop 3).take (Tryz.prog.cellsOf 25)) = xs[3]? := hg 3 _ rfl
  have h4 : DataW.trod enc Tryz.prog W 0 sp held n 53 (([v0, v1, v2, v3, v4].drop 4).take (Tryz.prog.cellsOf 53)) = xs[4]? := hg 4 _ rfl
  have hx5 : xs.length = 5 := hxl
  rw [cells_strs, List.getElem?_eq_getElem (by omega)] at h0 h1 h2
  rw [cells_ints, List.getElem?_eq_getElem (by omega)] at h3
  rw [cells_linss, List.getElem?_eq_getElem (by omega)] at h4
  simp only [List.drop_zero, List.drop_succ_cons, List.take_succ_cons, List.take_zero] at h0 h1 h2 h3 h4
  obtain ⟨A0, c0, g, e0, l0, r0, s0, t0⟩ := rd_strs h0
  obtain ⟨A1, c1, lk, e1, l1, r1, s1, t1⟩ := rd_strs h1
  obtain ⟨A2, c2, pr, e2, l2, r2, s2, t2⟩ := rd_strs h2
  obtain ⟨A3, c3, en, e3, l3, r3, s3, t3⟩ := rd_ints' h3
  obtain ⟨A4, c4, ins, e4, l4, r4, s4, t4⟩ := inss_open h4
  injection e0 with e0
  injection e1 with e1
  injection e2 with e2
  injection e3 with e3
  injection e4 with e4
  subst e0 e1 e2 e3 e4
  exact ⟨⟨A0, A1, A2, A3, A4, c0, c1, c2, c3, c4⟩, ⟨g, lk, pr, en, ins⟩, rfl, ⟨l0, l1, l2, l3, l4, r0, r1, r2, r3, r4⟩, ⟨s0, s1, s2, s3, s4, t0, t1, t2, t3, t4⟩⟩
end
end Go.Proofs.YtkgoajnnkimkaaaGreat
