/- Contracts of touchesIn and l17At; TouchesAt of the program and of the reference. -/
import Derived.Test.YtkgoajnnkimkaaaGreatG5
import Derived.Test.YtkgoajnnkimkaaaGreatQ3
import Derived.Test.YtkgoajnnkimkaaaGreatM2
set_option linter.unusedSimpArgs false
set_option linter.unusedVariables false
namespace Go.Proofs.YtkgoajnnkimkaaaGreat
open Go.ChangeShapes Go.WideShapes Go.ChangeAt Go.RowKit

/-- A touch: its place, the number, whether it is set, what is held. -/
structure Tt where
  a : Nat
  g : Nat
  w : Bool
  h : Nat
def tCells : List Tt → List Value
  | [] => []
  | t :: r => .int .i64 t.a :: .int .i64 t.g :: .bool t.w :: .int .i64 t.h :: tCells r
theorem tCells_len (ts : List Tt) : (tCells ts).length = ts.length * 4 := by
  induction ts with
  | nil => rfl
  | cons t r ih => simp [tCells, ih]; omega
theorem tCells_append (xs ys : List Tt) : tCells (xs ++ ys) = tCells xs ++ tCells ys := by
  induction xs with
  | nil => rfl
  | cons t r ih => simp [tCells, ih]
theorem tCells_one (ts : List Tt) : ∀ u ∈ tCells ts, u.oneCell' = true := by
  induction ts with
  | nil => simp [tCells]
  | cons t r ih =>
    intro u hu
    simp only [tCells, List.mem_cons] at hu
    rcases hu with rfl | rfl | rfl | rfl | hu
    · rfl
    · rfl
    · rfl
    · rfl
    · exact ih u hu
def readsAt (k : Cd) (a : Nat) : List ByteArray := ((k.ins[a]?).map fun x => readsOf x.term).getD []
def readsB (k : Cd) (a g : Nat) : Bool := ((k.globals[g]?).map fun n => decide (n ∈ readsAt k a)).getD false
def touchF (k : Cd) (a h g : Nat) : List Tt := (if readsB k a g = true then [⟨a, g, false, h⟩] else []) ++ (if opN k a = 1 ∧ argN k a = g then [⟨a, g, true, h⟩] else [])
def touchP (k : Cd) (a h j : Nat) : List Tt := (List.range j).flatMap (touchF k a h)
theorem touchP_snoc (k : Cd) (a h j : Nat) : touchP k a h (j + 1) = touchP k a h j ++ touchF k a h j := by simp [touchP, List.range_succ]
/-- What TouchesAt answers in right code. -/
def touchL (k : Cd) (a h : Nat) : List Tt := if opN k a = 1 ∨ opN k a = 2 then touchP k a h k.globals.length else []
theorem touchF_len (k : Cd) (a h g : Nat) : (touchF k a h g).length ≤ 2 := by
  unfold touchF
  split <;> split <;> simp
theorem touchP_len (k : Cd) (a h j : Nat) : (touchP k a h j).length ≤ 2 * j := by
  induction j with
  | zero => simp [touchP]
  | succ j ih => rw [touchP_snoc, List.length_append]; have := touchF_len k a h j; omega
theorem touchL_len (k : Cd) (a h : Nat) : (touchL k a h).length ≤ 2 * k.globals.length := by
  unfold touchL
  split
  · exact touchP_len _ _ _ _
  · simp
def NewT (w : World) (ts : List Tt) (e : Ending) (w' : World) : Prop := NewRow w 66 4 ts.length (tCells ts) e w'
theorem NewT.more {w w1 : World} {ts us : List Tt} {e : Ending} {w' : World} (h : NewT w1 ts e w') (hb : Below w.heap.size w w1) (he : us = ts) : NewT w us e w' := by
  subst he
  obtain ⟨A, c, e1, ho, hb1⟩ := h
  exact ⟨A, c, e1, own_mono ho hb.size, below_trans' hb hb1⟩
theorem info_touch : (Tryz.prog.info? 66).map (fun i => (i.zero, i.size, i.bytes)) = some (some (.agg #[.int .i64 0, .int .i64 0, .bool false, .int .i64 0]), 4, 32) := by kernel_rfl
section
variable (w : World) {ops : Array Oper} {rest : List Oper} {o : Oper} {a : Act} {Q : Exit → Act → World → Prop}
theorem append_touch {wr : World} (t : Tt) (hgd : o.guard = none) (s x : Operand) (ho : o.op = .call { callee := .builtin .append, args := #[s, x], argTypes := #[62, 62] })
    {base : Nat} {v : Value} {n : Nat} {ts : List Tt} (hown : wr.ownsRow base 66 4 v n (tCells ts)) (hs : a.eval s = v) (hx : a.eval x = .slice (some ⟨wr.heap.size, 0, none⟩) 1 1)
    (hn : n ≤ 1099511627775) (hbase : base ≤ wr.heap.size)
    (hK : ∀ A c w', w'.ownsRow base 66 4 (.slice A (n + 1) c) (n + 1) (tCells (ts ++ [t])) → wr.grownBy w' v.ownBlock → ((Value.slice A (n + 1) c).ownBlock = v.ownBlock ∨ (Value.slice A (n + 1) c).ownBlock = some (wr.heap.size + 1)) →
      wpList Tryz.prog ops Q rest (a.put o.dst (.slice A (n + 1) c)) w') : wpList Tryz.prog ops Q (o :: rest) a (wr.alloc (.cells #[.int .i64 t.a, .int .i64 t.g, .bool t.w, .int .i64 t.h] 66)) :=
  append_cells Tryz.underlying62 info_touch rfl (by omega) (by omega) hgd s x ho [.int .i64 t.a, .int .i64 t.g, .bool t.w, .int .i64 t.h] hown hs hx rfl (by simp [Value.oneCell']) hn hbase
    fun A c w' h1 h2 h3 => hK A c w' (by rw [tCells_append]; exact h1) h2 h3
end
theorem Tch.app {g : Nat} {w0 wr w' : World} {row : Option Nat} (h : Tch g g g w0 wr) (hg : wr.grownBy w' row) (hr : ∀ b, row = some b → b = g ∨ w0.heap.size ≤ b) : Tch g g g w0 w' := by
  refine ⟨hg.os.trans h.os, hg.tape.trans h.tape, hg.output.trans h.output, Nat.le_trans h.size hg.size, fun b hb h1 h2 h3 => ?_⟩
  refine (hg.block b (Nat.lt_of_lt_of_le hb h.size) fun e => ?_).trans (h.block b hb h1 h2 h3)
  rcases hr b e.symm with e | e
  · exact h1 e
  · omega
/-- The block of a row that grows: as it was laid first, or new. -/
def OBk (ob lo : Nat) (v : Value) : Prop := ∀ b, v.ownBlock = some b → b = ob ∨ lo ≤ b
theorem OBk.app {ob lo : Nat} {v v' : Value} {wr : World} (h : OBk ob lo v) (hv : v'.ownBlock = v.ownBlock ∨ v'.ownBlock = some (wr.heap.size + 1)) (hl : lo ≤ wr.heap.size) : OBk ob lo v' := by
  intro b hb
  rcases hv with e | e
  · exact h b (e.symm.trans hb)
  · rw [e] at hb
    injection hb with hb
    exact .inr (by omega)

set_option maxRecDepth 100000 in
set_option maxHeartbeats 8000000 in
theorem touchesIn_any {B L : Nat} (v : CV) (k : Cd) (a h : Nat) (w : World) (hr : Right k) (hk : CodeAt w B v k) (hcb : CdB L k) (hL : L ≤ 1048576) (ha : a < k.ins.length) :
    Calls Tryz.prog 185 #[.agg #[.slice v.gA k.globals.length v.gc, .slice v.lA k.locks.length v.lc, .slice v.pA k.procs.length v.pc, .slice v.eA k.entry.length v.ec, .slice v.iA k.ins.length v.ic], .int .i64 a, .int .i64 h] w (NewT w (touchL k a h)) := by
  have hkf := hk.full
  have hbx := codeBox w v k
  have hins := hr.ins
  have hgl := hr.globals
  obtain ⟨ai, A', c', eA, hbi, k0, k1, k2, k3, k4, k5, k6, kkid⟩ := hkf.full.i.get ha
  rw [opN_eq ha] at k0
  rw [argN_eq hr ha] at k1
  have HTB := Lib.hid ((hcb.insB _ (List.getElem_mem ha)).term)
  have hkid := kkid.full
  have HRD := Lib.hid (fun W (hb : Below w.heap.size w W) => readsOf_i k.ins[a].term A' c' W (hkid.below hb) HTB.out (by omega))
  have HRA := Lib.hid (show readsAt k a = readsOf k.ins[a].term from by simp [readsAt, ha])
  have hrl := readsF_len6 k.ins[a].term
  have HRL := Lib.hid hrl
  have HGC := Lib.hid (fun W (hb : Below w.heap.size w W) => (hkf.below hb).full.g)
  have x1 : (0 : Int) ≤ (a : Int) := by omega
  have x2 : (a : Int) < (k.ins.length : Int) := by omega
  obtain ⟨gA, lA, pA, eA0, iA, gc, lc, pc, ec, ic⟩ := v
  dsimp only at *
  subst eA
  by_cases h12 : opN k a = 1 ∨ opN k a = 2
  · have HTL := Lib.hid (show touchL k a h = touchP k a h k.globals.length from by unfold touchL; rw [if_pos h12])
    by_cases h1 : opN k a = 1
    · rw [h1] at k0
      have HOP := Lib.hid h1
      clear h12 h1
      clear hkf kkid hk hcb
      go_enter Tryz.func185, Tryz.ntmps185
      have b1 := below_alloc0 w (.cells #[.slice gA k.globals.length gc, .slice lA k.locks.length lc, .slice pA k.procs.length pc, .slice eA0 k.entry.length ec, .slice (some ai) k.ins.length ic] 28)
      have b2 := below_alloc0 (w.alloc (.cells #[.slice gA k.globals.length gc, .slice lA k.locks.length lc, .slice pA k.procs.length pc, .slice eA0 k.entry.length ec, .slice (some ai) k.ins.length ic] 28)) (.cells #[.int .i64 1, .int .i64 (argN k a), .int .i64 k.ins[a].term.kind, .int .i64 k.ins[a].term.num, .string k.ins[a].term.name, .slice A' k.ins[a].term.kids.length c', .int .i64 k.ins[a].to] 52)
      obtain ⟨q1, q2, c0, c1, c2, c3, c4⟩ := id hbx
      have kk0 := cell_below b1 k0
      have kk1 := cell_below b1 k1
      have kk2 := cell_below b1 k2
      have kk3 := cell_below b1 k3
      have kk4 := cell_below b1 k4
      have kk5 := cell_below b1 k5
      have kk6 := cell_below b1 k6
      have o0 := box_cell (w.alloc (.cells #[.slice gA k.globals.length gc, .slice lA k.locks.length lc, .slice pA k.procs.length pc, .slice eA0 k.entry.length ec, .slice (some ai) k.ins.length ic] 28)) #[.int .i64 1, .int .i64 (argN k a), .int .i64 k.ins[a].term.kind, .int .i64 k.ins[a].term.num, .string k.ins[a].term.name, .slice A' k.ins[a].term.kids.length c', .int .i64 k.ins[a].to] 52 0 rfl
      have o1 := box_cell (w.alloc (.cells #[.slice gA k.globals.length gc, .slice lA k.locks.length lc, .slice pA k.procs.length pc, .slice eA0 k.entry.length ec, .slice (some ai) k.ins.length ic] 28)) #[.int .i64 1, .int .i64 (argN k a), .int .i64 k.ins[a].term.kind, .int .i64 k.ins[a].term.num, .string k.ins[a].term.name, .slice A' k.ins[a].term.kids.length c', .int .i64 k.ins[a].to] 52 1 rfl
      go_wp2_with fail
      have h0w2 := below_trans' b1 b2
      refine (HRD.out _ h0w2).mono ?_
      rintro e w2 ⟨Ar, cr, rfl, hor, hb2⟩
      have h02 := below_trans' h0w2 hb2
      have hbx2 := (hbx.to b2).to hb2
      have o02 := cell_below hb2 o0
      have o12 := cell_below hb2 o1
      have hobx : ((w.alloc (.cells #[.slice gA k.globals.length gc, .slice lA k.locks.length lc, .slice pA k.procs.length pc, .slice eA0 k.entry.length ec, .slice (some ai) k.ins.length ic] 28))).heap.size < w2.heap.size := Nat.lt_of_lt_of_le (World.block_lt_of_cell? _ _ o0) hb2.size
      rw [show ((w.alloc (.cells #[.slice gA k.globals.length gc, .slice lA k.locks.length lc, .slice pA k.procs.length pc, .slice eA0 k.entry.length ec, .slice (some ai) k.ins.length ic] 28))).heap.size = w.heap.size + 1 from by simp] at o02 o12 hobx
      have HCN := Lib.hid (fun nm V (hb : Below w2.heap.size w2 V) => sContains_any Ar cr (readsOf k.ins[a].term) nm V ((own_rd hor).below hb) (by omega))
      have HO0 := Lib.hid (fun V (hb : Below w2.heap.size w2 V) => cell_below hb o02)
      have HO1 := Lib.hid (fun V (hb : Below w2.heap.size w2 V) => cell_below hb o12)
      have HGL := Lib.hid (fun V (hb : Below w2.heap.size w2 V) => HGC.out _ (below_trans' h02 hb))
      obtain ⟨q1', q2', d0, d1, d2, d3, d4⟩ := id hbx2
      clear b1 b2 kk0 kk1 kk2 kk3 kk4 kk5 kk6 o0 o1 c0 c1 c2 c3 c4 q1 q2 k0 k1 k2 k3 k4 k5 k6 hor hb2 h0w2 hkid 
      go_wp2_with fail
      clear d0 d1 d2 d3 d4 q1' q2'
      have HP0 := Lib.hid (show touchP k a h 0 = [] from rfl)
      go_loopg [9, 31] k.globals.length (fun l out i wr => ∃ j : Nat, j ≤ k.globals.length ∧ l = k.globals.length - j ∧ i = .int .i64 j ∧ wr.ownsRow w2.heap.size 66 4 out (touchP k a h j).length (tCells (touchP k a h j)) ∧ Below w2.heap.size w2 wr)
      case atStart => exact ⟨0, by omega, by omega, rfl, World.ownsRow_nil _ _ _ _, Below.refl _ _⟩
      case round =>
        
        obtain ⟨j, hj, rfl, rfl, ho, hb⟩ := hrel
        obtain ⟨co, Ao, rfl⟩ : ∃ co Ao, _ := by
          obtain ⟨Ao, co, e⟩ := own_form ho
          exact ⟨co, Ao, e⟩
        have hpl := touchP_len k a h j
        have hsz := hb.size
        
        have o0 := HO0.out _ hb
        have o1 := HO1.out _ hb
        
        by_cases hlt : j < k.globals.length
        · have hgx := HGL.out _ hb
          obtain ⟨adg, eg, _, hcg⟩ := hgx j (sv k.globals[j]) (by simp [hlt])
          subst eg
          have z1 : (0 : Int) ≤ (j : Int) := by omega
          have z2 : (j : Int) < (k.globals.length : Int) := by omega
          have HRB := Lib.hid (show readsB k a j = decide (k.globals[j] ∈ readsOf k.ins[a].term) from by simp [readsB, hlt, HRA.out])
          have hcn := HCN.out k.globals[j] wr hb
          rw [← HRB.out] at hcn
          have HCNJ := Lib.hid hcn
          clear hcn
          generalize k.globals[j] = nm at *
          cases hrb : readsB k a j
          · have hcn := HCNJ.out
            rw [hrb] at hcn
            have hcn := Lib.hid hcn
            by_cases hag : argN k a = j
            rotate_left
            · have hag2 : (((argN k a : Nat) : Int) == (j : Int)) = false := by rw [beq_eq_false_iff_ne]; omega
              have HT2 := Lib.hid (show touchP k a h (j + 1) = touchP k a h j ++ [] from by have hop := HOP.out; rw [touchP_snoc]; simp [touchF, hrb, hop, hag])
              clear hrb HCNJ HRB hag
              go_wp2_with fail
              refine hcn.out.mono ?_
              rintro e w3 ⟨rfl, rfl⟩
              go_wp2_with fail
              go_roundg (k.globals.length - (j + 1))
              case measure => omega
              case rel => exact ⟨j + 1, by omega, rfl, by go_num, by rw [HT2.out, List.append_nil]; exact ho, hb⟩
            · have hag2 : (((argN k a : Nat) : Int) == (j : Int)) = true := by rw [beq_iff_eq]; omega
              have HT2 := Lib.hid (show touchP k a h (j + 1) = touchP k a h j ++ [⟨a, j, true, h⟩] from by have hop := HOP.out; rw [touchP_snoc]; simp [touchF, hrb, hop, hag])
              clear hrb HCNJ HRB hag
              go_wp2_with fail
              refine hcn.out.mono ?_
              rintro e w3 ⟨rfl, rfl⟩
              go_wp2_with (at_builtin; first | (refine append_touch ⟨a, j, true, h⟩ rfl _ _ rfl ho rfl rfl (by omega) hsz ?_; intro A2 c2 w2x ho2 hg2 hv2; have hb2 := below_append hb ho hg2 hsz (Nat.le_refl _); have hsz2 := hb2.size; have o02 := HO0.out _ hb2; have o12 := HO1.out _ hb2))
              go_roundg (k.globals.length - (j + 1))
              case measure => omega
              case rel => exact ⟨j + 1, by omega, rfl, by go_num, by rw [HT2.out, List.length_append]; exact ho2, hb2⟩
          · have hcn := HCNJ.out
            rw [hrb] at hcn
            have hcn := Lib.hid hcn
            by_cases hag : argN k a = j
            rotate_left
            · have hag2 : (((argN k a : Nat) : Int) == (j : Int)) = false := by rw [beq_eq_false_iff_ne]; omega
              have HT2 := Lib.hid (show touchP k a h (j + 1) = touchP k a h j ++ [⟨a, j, false, h⟩] from by have hop := HOP.out; rw [touchP_snoc]; simp [touchF, hrb, hop, hag])
              clear hrb HCNJ HRB hag
              go_wp2_with fail
              refine hcn.out.mono ?_
              rintro e w3 ⟨rfl, rfl⟩
              go_wp2_with (at_builtin; first | (refine append_touch ⟨a, j, false, h⟩ rfl _ _ rfl ho rfl rfl (by omega) hsz ?_; intro A2 c2 w2x ho2 hg2 hv2; have hb2 := below_append hb ho hg2 hsz (Nat.le_refl _); have hsz2 := hb2.size; have o02 := HO0.out _ hb2; have o12 := HO1.out _ hb2))
              go_roundg (k.globals.length - (j + 1))
              case measure => omega
              case rel => exact ⟨j + 1, by omega, rfl, by go_num, by rw [HT2.out, List.length_append]; exact ho2, hb2⟩
            · have hag2 : (((argN k a : Nat) : Int) == (j : Int)) = true := by rw [beq_iff_eq]; omega
              have HT2 := Lib.hid (show touchP k a h (j + 1) = touchP k a h j ++ [⟨a, j, false, h⟩, ⟨a, j, true, h⟩] from by have hop := HOP.out; rw [touchP_snoc]; simp [touchF, hrb, hop, hag])
              clear hrb HCNJ HRB hag
              go_wp2_with fail
              refine hcn.out.mono ?_
              rintro e w3 ⟨rfl, rfl⟩
              go_wp2_with (at_builtin; first | (refine append_touch ⟨a, j, false, h⟩ rfl _ _ rfl ho rfl rfl (by omega) hsz ?_; intro A2 c2 w2x ho2 hg2 hv2; have hb2 := below_append hb ho hg2 hsz (Nat.le_refl _); have hsz2 := hb2.size; have o02 := HO0.out _ hb2; have o12 := HO1.out _ hb2) | (refine append_touch ⟨a, j, true, h⟩ rfl _ _ rfl ho2 rfl rfl (by omega) hsz2 ?_; intro A3 c3 w3x ho3 hg3 hv3; have hb3 := below_append hb2 ho2 hg3 hsz2 (Nat.le_refl _); have hsz3 := hb3.size; have o03 := HO0.out _ hb3; have o13 := HO1.out _ hb3))
              go_roundg (k.globals.length - (j + 1))
              case measure => omega
              case rel => exact ⟨j + 1, by omega, rfl, by go_num, by rw [HT2.out, List.length_append, show [(⟨a, j, false, h⟩ : Tt), ⟨a, j, true, h⟩] = [⟨a, j, false, h⟩] ++ [⟨a, j, true, h⟩] from rfl, ← List.append_assoc]; exact ho3, hb3⟩
        · obtain rfl : j = k.globals.length := by omega
          have HFI := Lib.hid (show NewT w (touchL k a h) (.returned (.slice Ao (touchP k a h k.globals.length).length co)) wr from by
            rw [HTL.out]
            exact ⟨Ao, co, rfl, own_mono ho h02.size, below_trans' h02 hb⟩)
          go_wp2_with fail
          go_ret
          exact HFI.out
    · have h2 : opN k a = 2 := h12.resolve_left h1
      rw [h2] at k0
      have HOP := Lib.hid h2
      clear h12 h1 h2
      clear hkf kkid hk hcb
      go_enter Tryz.func185, Tryz.ntmps185
      have b1 := below_alloc0 w (.cells #[.slice gA k.globals.length gc, .slice lA k.locks.length lc, .slice pA k.procs.length pc, .slice eA0 k.entry.length ec, .slice (some ai) k.ins.length ic] 28)
      have b2 := below_alloc0 (w.alloc (.cells #[.slice gA k.globals.length gc, .slice lA k.locks.length lc, .slice pA k.procs.length pc, .slice eA0 k.entry.length ec, .slice (some ai) k.ins.length ic] 28)) (.cells #[.int .i64 2, .int .i64 (argN k a), .int .i64 k.ins[a].term.kind, .int .i64 k.ins[a].term.num, .string k.ins[a].term.name, .slice A' k.ins[a].term.kids.length c', .int .i64 k.ins[a].to] 52)
      obtain ⟨q1, q2, c0, c1, c2, c3, c4⟩ := id hbx
      have kk0 := cell_below b1 k0
      have kk1 := cell_below b1 k1
      have kk2 := cell_below b1 k2
      have kk3 := cell_below b1 k3
      have kk4 := cell_below b1 k4
      have kk5 := cell_below b1 k5
      have kk6 := cell_below b1 k6
      have o0 := box_cell (w.alloc (.cells #[.slice gA k.globals.length gc, .slice lA k.locks.length lc, .slice pA k.procs.length pc, .slice eA0 k.entry.length ec, .slice (some ai) k.ins.length ic] 28)) #[.int .i64 2, .int .i64 (argN k a), .int .i64 k.ins[a].term.kind, .int .i64 k.ins[a].term.num, .string k.ins[a].term.name, .slice A' k.ins[a].term.kids.length c', .int .i64 k.ins[a].to] 52 0 rfl
      have o1 := box_cell (w.alloc (.cells #[.slice gA k.globals.length gc, .slice lA k.locks.length lc, .slice pA k.procs.length pc, .slice eA0 k.entry.length ec, .slice (some ai) k.ins.length ic] 28)) #[.int .i64 2, .int .i64 (argN k a), .int .i64 k.ins[a].term.kind, .int .i64 k.ins[a].term.num, .string k.ins[a].term.name, .slice A' k.ins[a].term.kids.length c', .int .i64 k.ins[a].to] 52 1 rfl
      go_wp2_with fail
      have h0w2 := below_trans' b1 b2
      refine (HRD.out _ h0w2).mono ?_
      rintro e w2 ⟨Ar, cr, rfl, hor, hb2⟩
      have h02 := below_trans' h0w2 hb2
      have hbx2 := (hbx.to b2).to hb2
      have o02 := cell_below hb2 o0
      have o12 := cell_below hb2 o1
      have hobx : ((w.alloc (.cells #[.slice gA k.globals.length gc, .slice lA k.locks.length lc, .slice pA k.procs.length pc, .slice eA0 k.entry.length ec, .slice (some ai) k.ins.length ic] 28))).heap.size < w2.heap.size := Nat.lt_of_lt_of_le (World.block_lt_of_cell? _ _ o0) hb2.size
      rw [show ((w.alloc (.cells #[.slice gA k.globals.length gc, .slice lA k.locks.length lc, .slice pA k.procs.length pc, .slice eA0 k.entry.length ec, .slice (some ai) k.ins.length ic] 28))).heap.size = w.heap.size + 1 from by simp] at o02 o12 hobx
      have HCN := Lib.hid (fun nm V (hb : Below w2.heap.size w2 V) => sContains_any Ar cr (readsOf k.ins[a].term) nm V ((own_rd hor).below hb) (by omega))
      have HO0 := Lib.hid (fun V (hb : Below w2.heap.size w2 V) => cell_below hb o02)
      have HO1 := Lib.hid (fun V (hb : Below w2.heap.size w2 V) => cell_below hb o12)
      have HGL := Lib.hid (fun V (hb : Below w2.heap.size w2 V) => HGC.out _ (below_trans' h02 hb))
      obtain ⟨q1', q2', d0, d1, d2, d3, d4⟩ := id hbx2
      clear b1 b2 kk0 kk1 kk2 kk3 kk4 kk5 kk6 o0 o1 c0 c1 c2 c3 c4 q1 q2 k0 k1 k2 k3 k4 k5 k6 hor hb2 h0w2 hkid 
      go_wp2_with fail
      clear d0 d1 d2 d3 d4 q1' q2'
      have HP0 := Lib.hid (show touchP k a h 0 = [] from rfl)
      go_loopg [9, 31] k.globals.length (fun l out i wr => ∃ j : Nat, j ≤ k.globals.length ∧ l = k.globals.length - j ∧ i = .int .i64 j ∧ wr.ownsRow w2.heap.size 66 4 out (touchP k a h j).length (tCells (touchP k a h j)) ∧ Below w2.heap.size w2 wr)
      case atStart => exact ⟨0, by omega, by omega, rfl, World.ownsRow_nil _ _ _ _, Below.refl _ _⟩
      case round =>
        
        obtain ⟨j, hj, rfl, rfl, ho, hb⟩ := hrel
        obtain ⟨co, Ao, rfl⟩ : ∃ co Ao, _ := by
          obtain ⟨Ao, co, e⟩ := own_form ho
          exact ⟨co, Ao, e⟩
        have hpl := touchP_len k a h j
        have hsz := hb.size
        
        have o0 := HO0.out _ hb
        have o1 := HO1.out _ hb
        
        by_cases hlt : j < k.globals.length
        · have hgx := HGL.out _ hb
          obtain ⟨adg, eg, _, hcg⟩ := hgx j (sv k.globals[j]) (by simp [hlt])
          subst eg
          have z1 : (0 : Int) ≤ (j : Int) := by omega
          have z2 : (j : Int) < (k.globals.length : Int) := by omega
          have HRB := Lib.hid (show readsB k a j = decide (k.globals[j] ∈ readsOf k.ins[a].term) from by simp [readsB, hlt, HRA.out])
          have hcn := HCN.out k.globals[j] wr hb
          rw [← HRB.out] at hcn
          have HCNJ := Lib.hid hcn
          clear hcn
          generalize k.globals[j] = nm at *
          cases hrb : readsB k a j
          · have hcn := HCNJ.out
            rw [hrb] at hcn
            have hcn := Lib.hid hcn
            · skip
              have HT2 := Lib.hid (show touchP k a h (j + 1) = touchP k a h j ++ [] from by have hop := HOP.out; rw [touchP_snoc]; simp [touchF, hrb, hop])
              clear hrb HCNJ HRB 
              go_wp2_with fail
              refine hcn.out.mono ?_
              rintro e w3 ⟨rfl, rfl⟩
              go_wp2_with fail
              go_roundg (k.globals.length - (j + 1))
              case measure => omega
              case rel => exact ⟨j + 1, by omega, rfl, by go_num, by rw [HT2.out, List.append_nil]; exact ho, hb⟩
          · have hcn := HCNJ.out
            rw [hrb] at hcn
            have hcn := Lib.hid hcn
            · skip
              have HT2 := Lib.hid (show touchP k a h (j + 1) = touchP k a h j ++ [⟨a, j, false, h⟩] from by have hop := HOP.out; rw [touchP_snoc]; simp [touchF, hrb, hop])
              clear hrb HCNJ HRB 
              go_wp2_with fail
              refine hcn.out.mono ?_
              rintro e w3 ⟨rfl, rfl⟩
              go_wp2_with (at_builtin; first | (refine append_touch ⟨a, j, false, h⟩ rfl _ _ rfl ho rfl rfl (by omega) hsz ?_; intro A2 c2 w2x ho2 hg2 hv2; have hb2 := below_append hb ho hg2 hsz (Nat.le_refl _); have hsz2 := hb2.size; have o02 := HO0.out _ hb2; have o12 := HO1.out _ hb2))
              go_roundg (k.globals.length - (j + 1))
              case measure => omega
              case rel => exact ⟨j + 1, by omega, rfl, by go_num, by rw [HT2.out, List.length_append]; exact ho2, hb2⟩
        · obtain rfl : j = k.globals.length := by omega
          have HFI := Lib.hid (show NewT w (touchL k a h) (.returned (.slice Ao (touchP k a h k.globals.length).length co)) wr from by
            rw [HTL.out]
            exact ⟨Ao, co, rfl, own_mono ho h02.size, below_trans' h02 hb⟩)
          go_wp2_with fail
          go_ret
          exact HFI.out
  · have HZ := Lib.hid (show touchL k a h = [] from by unfold touchL; rw [if_neg h12])
    have n1 : (opN k a != 1) = true := by simp only [bne_iff_ne, ne_eq]; exact fun e => h12 (.inl e)
    have n2 : (opN k a != 2) = true := by simp only [bne_iff_ne, ne_eq]; exact fun e => h12 (.inr e)
    clear hkf kkid hk hcb
    go_enter Tryz.func185, Tryz.ntmps185
    have b1 := below_alloc0 w (.cells #[.slice gA k.globals.length gc, .slice lA k.locks.length lc, .slice pA k.procs.length pc, .slice eA0 k.entry.length ec, .slice (some ai) k.ins.length ic] 28)
    have b2 := below_alloc0 (w.alloc (.cells #[.slice gA k.globals.length gc, .slice lA k.locks.length lc, .slice pA k.procs.length pc, .slice eA0 k.entry.length ec, .slice (some ai) k.ins.length ic] 28)) (.cells #[.int .i64 (opN k a), .int .i64 (argN k a), .int .i64 k.ins[a].term.kind, .int .i64 k.ins[a].term.num, .string k.ins[a].term.name, .slice A' k.ins[a].term.kids.length c', .int .i64 k.ins[a].to] 52)
    obtain ⟨q1, q2, c0, c1, c2, c3, c4⟩ := id hbx
    have kk0 := cell_below b1 k0
    have kk1 := cell_below b1 k1
    have kk2 := cell_below b1 k2
    have kk3 := cell_below b1 k3
    have kk4 := cell_below b1 k4
    have kk5 := cell_below b1 k5
    have kk6 := cell_below b1 k6
    have o0 := box_cell (w.alloc (.cells #[.slice gA k.globals.length gc, .slice lA k.locks.length lc, .slice pA k.procs.length pc, .slice eA0 k.entry.length ec, .slice (some ai) k.ins.length ic] 28)) #[.int .i64 (opN k a), .int .i64 (argN k a), .int .i64 k.ins[a].term.kind, .int .i64 k.ins[a].term.num, .string k.ins[a].term.name, .slice A' k.ins[a].term.kids.length c', .int .i64 k.ins[a].to] 52 0 rfl
    have o1 := box_cell (w.alloc (.cells #[.slice gA k.globals.length gc, .slice lA k.locks.length lc, .slice pA k.procs.length pc, .slice eA0 k.entry.length ec, .slice (some ai) k.ins.length ic] 28)) #[.int .i64 (opN k a), .int .i64 (argN k a), .int .i64 k.ins[a].term.kind, .int .i64 k.ins[a].term.num, .string k.ins[a].term.name, .slice A' k.ins[a].term.kids.length c', .int .i64 k.ins[a].to] 52 1 rfl
    clear h12
    go_wp2_with fail
    go_ret
    rw [HZ.out]
    exact ⟨none, 0, rfl, World.ownsRow_nil _ _ _ _, below_trans' b1 b2⟩

set_option maxRecDepth 100000 in
set_option maxHeartbeats 8000000 in
theorem l17At_any {B L : Nat} (v : CV) (k : Cd) (a h : Nat) (w : World) (hr : Right k) (hk : CodeAt w B v k) (hcb : CdB L k) (hL : L ≤ 1048576) (ha : a < k.ins.length) :
    Calls Tryz.prog 186 #[.agg #[.slice v.gA k.globals.length v.gc, .slice v.lA k.locks.length v.lc, .slice v.pA k.procs.length v.pc, .slice v.eA k.entry.length v.ec, .slice v.iA k.ins.length v.ic], .int .i64 a, .int .i64 h] w (NewT w (touchL k a h)) := by
  have hkf := hk.full
  have hbx := codeBox w v k
  have hins := hr.ins
  have hgl := hr.globals
  obtain ⟨ai, A', c', eA, hbi, k0, k1, k2, k3, k4, k5, k6, kkid⟩ := hkf.full.i.get ha
  rw [opN_eq ha] at k0
  rw [argN_eq hr ha] at k1
  have HTB := Lib.hid ((hcb.insB _ (List.getElem_mem ha)).term)
  have hkid := kkid.full
  have HRD := Lib.hid (fun W (hb : Below w.heap.size w W) => readsOf_s k.ins[a].term A' c' W (hkid.below hb) HTB.out (by omega))
  have HRA := Lib.hid (show readsAt k a = readsOf k.ins[a].term from by simp [readsAt, ha])
  have hrl := readsF_len6 k.ins[a].term
  have HRL := Lib.hid hrl
  have HGC := Lib.hid (fun W (hb : Below w.heap.size w W) => (hkf.below hb).full.g)
  have x1 : (0 : Int) ≤ (a : Int) := by omega
  have x2 : (a : Int) < (k.ins.length : Int) := by omega
  obtain ⟨gA, lA, pA, eA0, iA, gc, lc, pc, ec, ic⟩ := v
  dsimp only at *
  subst eA
  by_cases h12 : opN k a = 1 ∨ opN k a = 2
  · have HTL := Lib.hid (show touchL k a h = touchP k a h k.globals.length from by unfold touchL; rw [if_pos h12])
    by_cases h1 : opN k a = 1
    · rw [h1] at k0
      have HOP := Lib.hid h1
      clear h12 h1
      clear hkf kkid hk hcb
      go_enter Tryz.func186, Tryz.ntmps186
      have b1 := below_alloc0 w (.cells #[.slice gA k.globals.length gc, .slice lA k.locks.length lc, .slice pA k.procs.length pc, .slice eA0 k.entry.length ec, .slice (some ai) k.ins.length ic] 28)
      have b1a := below_alloc0 (w.alloc (.cells #[.slice gA k.globals.length gc, .slice lA k.locks.length lc, .slice pA k.procs.length pc, .slice eA0 k.entry.length ec, .slice (some ai) k.ins.length ic] 28)) (.cells #[] 66)
      have b2 := below_alloc0 ((w.alloc (.cells #[.slice gA k.globals.length gc, .slice lA k.locks.length lc, .slice pA k.procs.length pc, .slice eA0 k.entry.length ec, .slice (some ai) k.ins.length ic] 28)).alloc (.cells #[] 66)) (.cells #[.int .i64 1, .int .i64 (argN k a), .int .i64 k.ins[a].term.kind, .int .i64 k.ins[a].term.num, .string k.ins[a].term.name, .slice A' k.ins[a].term.kids.length c', .int .i64 k.ins[a].to] 52)
      have hbx1 := hbx.to b1a
      obtain ⟨q1, q2, c0, c1, c2, c3, c4⟩ := id hbx1
      have kk0 := cell_below b1a (cell_below b1 k0)
      have kk1 := cell_below b1a (cell_below b1 k1)
      have kk2 := cell_below b1a (cell_below b1 k2)
      have kk3 := cell_below b1a (cell_below b1 k3)
      have kk4 := cell_below b1a (cell_below b1 k4)
      have kk5 := cell_below b1a (cell_below b1 k5)
      have kk6 := cell_below b1a (cell_below b1 k6)
      have o0 := box_cell ((w.alloc (.cells #[.slice gA k.globals.length gc, .slice lA k.locks.length lc, .slice pA k.procs.length pc, .slice eA0 k.entry.length ec, .slice (some ai) k.ins.length ic] 28)).alloc (.cells #[] 66)) #[.int .i64 1, .int .i64 (argN k a), .int .i64 k.ins[a].term.kind, .int .i64 k.ins[a].term.num, .string k.ins[a].term.name, .slice A' k.ins[a].term.kids.length c', .int .i64 k.ins[a].to] 52 0 rfl
      have o1 := box_cell ((w.alloc (.cells #[.slice gA k.globals.length gc, .slice lA k.locks.length lc, .slice pA k.procs.length pc, .slice eA0 k.entry.length ec, .slice (some ai) k.ins.length ic] 28)).alloc (.cells #[] 66)) #[.int .i64 1, .int .i64 (argN k a), .int .i64 k.ins[a].term.kind, .int .i64 k.ins[a].term.num, .string k.ins[a].term.name, .slice A' k.ins[a].term.kids.length c', .int .i64 k.ins[a].to] 52 1 rfl
      have ho0 : ((w.alloc (.cells #[.slice gA k.globals.length gc, .slice lA k.locks.length lc, .slice pA k.procs.length pc, .slice eA0 k.entry.length ec, .slice (some ai) k.ins.length ic] 28)).alloc (.cells #[] 66)).ownsRow (w.heap.size + 1) 66 4 (.slice (some ⟨w.heap.size + 1, 0, none⟩) 0 0) 0 (tCells []) := by
        have := World.ownsRow_lit (base := w.heap.size + 1) (e := 66) (size := 4) (w.alloc (.cells #[.slice gA k.globals.length gc, .slice lA k.locks.length lc, .slice pA k.procs.length pc, .slice eA0 k.entry.length ec, .slice (some ai) k.ins.length ic] 28)) #[] 0 (by simp) (by simp) rfl
        simpa [tCells] using this
      go_wp2_with fail
      have h0w2 := below_trans' (below_trans' b1 b1a) b2
      refine (HRD.out _ h0w2).mono ?_
      rintro e w2 ⟨Ar, cr, rfl, hor, hb2⟩
      have h02 := below_trans' h0w2 hb2
      have hbx2 := (hbx1.to b2).to hb2
      have o02 := cell_below hb2 o0
      have o12 := cell_below hb2 o1
      have hobx : (((w.alloc (.cells #[.slice gA k.globals.length gc, .slice lA k.locks.length lc, .slice pA k.procs.length pc, .slice eA0 k.entry.length ec, .slice (some ai) k.ins.length ic] 28)).alloc (.cells #[] 66))).heap.size < w2.heap.size := Nat.lt_of_lt_of_le (World.block_lt_of_cell? _ _ o0) hb2.size
      rw [show (((w.alloc (.cells #[.slice gA k.globals.length gc, .slice lA k.locks.length lc, .slice pA k.procs.length pc, .slice eA0 k.entry.length ec, .slice (some ai) k.ins.length ic] 28)).alloc (.cells #[] 66))).heap.size = w.heap.size + 1 + 1 from by simp] at o02 o12 hobx
      have ho2 := own_below (own_below ho0 b2) hb2
      have hw1 : w.heap.size + 1 < w2.heap.size := (ho2.lt _ rfl).2
      have horb : w.heap.size + 1 < ((((w.alloc (.cells #[.slice gA k.globals.length gc, .slice lA k.locks.length lc, .slice pA k.procs.length pc, .slice eA0 k.entry.length ec, .slice (some ai) k.ins.length ic] 28)).alloc (.cells #[] 66))).alloc (.cells #[.int .i64 1, .int .i64 (argN k a), .int .i64 k.ins[a].term.kind, .int .i64 k.ins[a].term.num, .string k.ins[a].term.name, .slice A' k.ins[a].term.kids.length c', .int .i64 k.ins[a].to] 52)).heap.size := by simp
      have HRDN := Lib.hid (fun V (h : Tch (w.heap.size + 1) (w.heap.size + 1) (w.heap.size + 1) w2 V) => own_rd (h.own hor horb horb horb))
      have HBT := Lib.hid (fun V (h : Tch (w.heap.size + 1) (w.heap.size + 1) (w.heap.size + 1) w2 V) => h.below (B := w.heap.size + 1) (by omega) (Nat.le_refl _) (Nat.le_refl _) (Nat.le_refl _))
      have HCN := Lib.hid (fun nm V (h : Tch (w.heap.size + 1) (w.heap.size + 1) (w.heap.size + 1) w2 V) => l04Has_any Ar cr (readsOf k.ins[a].term) nm V (HRDN.out _ h) (by omega))
      have hobn : w.heap.size + 1 + 1 ≠ w.heap.size + 1 := by omega
      have HO0 := Lib.hid (fun V (h : Tch (w.heap.size + 1) (w.heap.size + 1) (w.heap.size + 1) w2 V) => (World.cell?_of_block (h.block _ hobx hobn hobn hobn)).trans o02)
      have HO1 := Lib.hid (fun V (h : Tch (w.heap.size + 1) (w.heap.size + 1) (w.heap.size + 1) w2 V) => (World.cell?_of_block (h.block _ hobx hobn hobn hobn)).trans o12)
      have HBX := Lib.hid (fun V (h : Tch (w.heap.size + 1) (w.heap.size + 1) (w.heap.size + 1) w2 V) => CodeBox.at (w := w) (v := ⟨gA, lA, pA, eA0, some ai, gc, lc, pc, ec, ic⟩) (k := k) hbx2 (HBT.out _ h) (by omega))
      obtain ⟨q1', q2', d0, d1, d2, d3, d4⟩ := id hbx2
      clear b1 b2 kk0 kk1 kk2 kk3 kk4 kk5 kk6 o0 o1 c0 c1 c2 c3 c4 q1 q2 k0 k1 k2 k3 k4 k5 k6 hor hb2 h0w2 hkid b1a ho0 hobn horb hobx
      go_wp2_with fail
      clear d0 d1 d2 d3 d4 q1' q2'
      have HP0 := Lib.hid (show touchP k a h 0 = [] from rfl)
      go_loopg [7, 10] k.globals.length (fun l out i wr => ∃ j : Nat, j ≤ k.globals.length ∧ l = k.globals.length - j ∧ i = .int .i64 j ∧ wr.ownsRow (w.heap.size + 1) 66 4 out (touchP k a h j).length (tCells (touchP k a h j)) ∧ OBk (w.heap.size + 1) w2.heap.size out ∧ Tch (w.heap.size + 1) (w.heap.size + 1) (w.heap.size + 1) w2 wr)
      case atStart => exact ⟨0, by omega, by omega, rfl, ho2, fun b hb => .inl (by injection hb with hb; exact hb.symm), Tch.refl _ _ _ _⟩
      case round =>
        clear ho2
        obtain ⟨j, hj, rfl, rfl, ho, hOB, hT⟩ := hrel
        obtain ⟨co, Ao, rfl⟩ : ∃ co Ao, _ := by
          obtain ⟨Ao, co, e⟩ := own_form ho
          exact ⟨co, Ao, e⟩
        have hpl := touchP_len k a h j
        have hszT := hT.size
        have hsz : w.heap.size + 1 ≤ wr.heap.size := by omega
        have o0 := HO0.out _ hT
        have o1 := HO1.out _ hT
        obtain ⟨q1, q2, c0, c1, c2, c3, c4⟩ := id (HBX.out _ hT)
        by_cases hlt : j < k.globals.length
        · have hgx := HGC.out _ (HBX.out _ hT).1
          obtain ⟨adg, eg, _, hcg⟩ := hgx j (sv k.globals[j]) (by simp [hlt])
          subst eg
          have z1 : (0 : Int) ≤ (j : Int) := by omega
          have z2 : (j : Int) < (k.globals.length : Int) := by omega
          have HRB := Lib.hid (show readsB k a j = decide (k.globals[j] ∈ readsOf k.ins[a].term) from by simp [readsB, hlt, HRA.out])
          have hcn := HCN.out k.globals[j] wr hT
          rw [← HRB.out] at hcn
          have HCNJ := Lib.hid hcn
          clear hcn
          generalize k.globals[j] = nm at *
          cases hrb : readsB k a j
          · have hcn := HCNJ.out
            rw [hrb] at hcn
            have hcn := Lib.hid hcn
            by_cases hag : argN k a = j
            rotate_left
            · have hag2 : (((argN k a : Nat) : Int) == (j : Int)) = false := by rw [beq_eq_false_iff_ne]; omega
              have HT2 := Lib.hid (show touchP k a h (j + 1) = touchP k a h j ++ [] from by have hop := HOP.out; rw [touchP_snoc]; simp [touchF, hrb, hop, hag])
              clear hrb HCNJ HRB hag
              go_wp2_with fail
              refine hcn.out.mono ?_
              rintro e w3 ⟨rfl, rfl⟩
              go_wp2_with fail
              go_roundg (k.globals.length - (j + 1))
              case measure => omega
              case rel => exact ⟨j + 1, by omega, rfl, by go_num, by rw [HT2.out, List.append_nil]; exact ho, hOB, hT⟩
            · have hag2 : (((argN k a : Nat) : Int) == (j : Int)) = true := by rw [beq_iff_eq]; omega
              have HT2 := Lib.hid (show touchP k a h (j + 1) = touchP k a h j ++ [⟨a, j, true, h⟩] from by have hop := HOP.out; rw [touchP_snoc]; simp [touchF, hrb, hop, hag])
              clear hrb HCNJ HRB hag
              go_wp2_with fail
              refine hcn.out.mono ?_
              rintro e w3 ⟨rfl, rfl⟩
              go_wp2_with (at_builtin; first | (refine append_touch ⟨a, j, true, h⟩ rfl _ _ rfl ho rfl rfl (by omega) hsz ?_; intro A2 c2 w2x ho2 hg2 hv2; have hT2 := hT.app hg2 hOB; have hOB2 := hOB.app hv2 (hszT); have hszT2 := hT2.size; have hsz2 : w.heap.size + 1 ≤ w2x.heap.size := (by omega); have o02 := HO0.out _ hT2; have o12 := HO1.out _ hT2; obtain ⟨p21, p22, e20, e21, e22, e23, e24⟩ := id (HBX.out _ hT2)))
              go_roundg (k.globals.length - (j + 1))
              case measure => omega
              case rel => exact ⟨j + 1, by omega, rfl, by go_num, by rw [HT2.out, List.length_append]; exact ho2, hOB2, hT2⟩
          · have hcn := HCNJ.out
            rw [hrb] at hcn
            have hcn := Lib.hid hcn
            by_cases hag : argN k a = j
            rotate_left
            · have hag2 : (((argN k a : Nat) : Int) == (j : Int)) = false := by rw [beq_eq_false_iff_ne]; omega
              have HT2 := Lib.hid (show touchP k a h (j + 1) = touchP k a h j ++ [⟨a, j, false, h⟩] from by have hop := HOP.out; rw [touchP_snoc]; simp [touchF, hrb, hop, hag])
              clear hrb HCNJ HRB hag
              go_wp2_with fail
              refine hcn.out.mono ?_
              rintro e w3 ⟨rfl, rfl⟩
              go_wp2_with (at_builtin; first | (refine append_touch ⟨a, j, false, h⟩ rfl _ _ rfl ho rfl rfl (by omega) hsz ?_; intro A2 c2 w2x ho2 hg2 hv2; have hT2 := hT.app hg2 hOB; have hOB2 := hOB.app hv2 (hszT); have hszT2 := hT2.size; have hsz2 : w.heap.size + 1 ≤ w2x.heap.size := (by omega); have o02 := HO0.out _ hT2; have o12 := HO1.out _ hT2; obtain ⟨p21, p22, e20, e21, e22, e23, e24⟩ := id (HBX.out _ hT2)))
              go_roundg (k.globals.length - (j + 1))
              case measure => omega
              case rel => exact ⟨j + 1, by omega, rfl, by go_num, by rw [HT2.out, List.length_append]; exact ho2, hOB2, hT2⟩
            · have hag2 : (((argN k a : Nat) : Int) == (j : Int)) = true := by rw [beq_iff_eq]; omega
              have HT2 := Lib.hid (show touchP k a h (j + 1) = touchP k a h j ++ [⟨a, j, false, h⟩, ⟨a, j, true, h⟩] from by have hop := HOP.out; rw [touchP_snoc]; simp [touchF, hrb, hop, hag])
              clear hrb HCNJ HRB hag
              go_wp2_with fail
              refine hcn.out.mono ?_
              rintro e w3 ⟨rfl, rfl⟩
              go_wp2_with (at_builtin; first | (refine append_touch ⟨a, j, false, h⟩ rfl _ _ rfl ho rfl rfl (by omega) hsz ?_; intro A2 c2 w2x ho2 hg2 hv2; have hT2 := hT.app hg2 hOB; have hOB2 := hOB.app hv2 (hszT); have hszT2 := hT2.size; have hsz2 : w.heap.size + 1 ≤ w2x.heap.size := (by omega); have o02 := HO0.out _ hT2; have o12 := HO1.out _ hT2; obtain ⟨p21, p22, e20, e21, e22, e23, e24⟩ := id (HBX.out _ hT2)) | (refine append_touch ⟨a, j, true, h⟩ rfl _ _ rfl ho2 rfl rfl (by omega) hsz2 ?_; intro A3 c3 w3x ho3 hg3 hv3; have hT3 := hT2.app hg3 hOB2; have hOB3 := hOB2.app hv3 (hszT2); have hszT3 := hT3.size; have hsz3 : w.heap.size + 1 ≤ w3x.heap.size := (by omega); have o03 := HO0.out _ hT3; have o13 := HO1.out _ hT3; obtain ⟨p31, p32, e30, e31, e32, e33, e34⟩ := id (HBX.out _ hT3)))
              go_roundg (k.globals.length - (j + 1))
              case measure => omega
              case rel => exact ⟨j + 1, by omega, rfl, by go_num, by rw [HT2.out, List.length_append, show [(⟨a, j, false, h⟩ : Tt), ⟨a, j, true, h⟩] = [⟨a, j, false, h⟩] ++ [⟨a, j, true, h⟩] from rfl, ← List.append_assoc]; exact ho3, hOB3, hT3⟩
        · obtain rfl : j = k.globals.length := by omega
          have HFI := Lib.hid (show NewT w (touchL k a h) (.returned (.slice Ao (touchP k a h k.globals.length).length co)) wr from by
            rw [HTL.out]
            exact ⟨Ao, co, rfl, own_mono ho (by omega), (HBX.out _ hT).1⟩)
          go_wp2_with fail
          go_ret
          exact HFI.out
    · have h2 : opN k a = 2 := h12.resolve_left h1
      rw [h2] at k0
      have HOP := Lib.hid h2
      clear h12 h1 h2
      clear hkf kkid hk hcb
      go_enter Tryz.func186, Tryz.ntmps186
      have b1 := below_alloc0 w (.cells #[.slice gA k.globals.length gc, .slice lA k.locks.length lc, .slice pA k.procs.length pc, .slice eA0 k.entry.length ec, .slice (some ai) k.ins.length ic] 28)
      have b1a := below_alloc0 (w.alloc (.cells #[.slice gA k.globals.length gc, .slice lA k.locks.length lc, .slice pA k.procs.length pc, .slice eA0 k.entry.length ec, .slice (some ai) k.ins.length ic] 28)) (.cells #[] 66)
      have b2 := below_alloc0 ((w.alloc (.cells #[.slice gA k.globals.length gc, .slice lA k.locks.length lc, .slice pA k.procs.length pc, .slice eA0 k.entry.length ec, .slice (some ai) k.ins.length ic] 28)).alloc (.cells #[] 66)) (.cells #[.int .i64 2, .int .i64 (argN k a), .int .i64 k.ins[a].term.kind, .int .i64 k.ins[a].term.num, .string k.ins[a].term.name, .slice A' k.ins[a].term.kids.length c', .int .i64 k.ins[a].to] 52)
      have hbx1 := hbx.to b1a
      obtain ⟨q1, q2, c0, c1, c2, c3, c4⟩ := id hbx1
      have kk0 := cell_below b1a (cell_below b1 k0)
      have kk1 := cell_below b1a (cell_below b1 k1)
      have kk2 := cell_below b1a (cell_below b1 k2)
      have kk3 := cell_below b1a (cell_below b1 k3)
      have kk4 := cell_below b1a (cell_below b1 k4)
      have kk5 := cell_below b1a (cell_below b1 k5)
      have kk6 := cell_below b1a (cell_below b1 k6)
      have o0 := box_cell ((w.alloc (.cells #[.slice gA k.globals.length gc, .slice lA k.locks.length lc, .slice pA k.procs.length pc, .slice eA0 k.entry.length ec, .slice (some ai) k.ins.length ic] 28)).alloc (.cells #[] 66)) #[.int .i64 2, .int .i64 (argN k a), .int .i64 k.ins[a].term.kind, .int .i64 k.ins[a].term.num, .string k.ins[a].term.name, .slice A' k.ins[a].term.kids.length c', .int .i64 k.ins[a].to] 52 0 rfl
      have o1 := box_cell ((w.alloc (.cells #[.slice gA k.globals.length gc, .slice lA k.locks.length lc, .slice pA k.procs.length pc, .slice eA0 k.entry.length ec, .slice (some ai) k.ins.length ic] 28)).alloc (.cells #[] 66)) #[.int .i64 2, .int .i64 (argN k a), .int .i64 k.ins[a].term.kind, .int .i64 k.ins[a].term.num, .string k.ins[a].term.name, .slice A' k.ins[a].term.kids.length c', .int .i64 k.ins[a].to] 52 1 rfl
      have ho0 : ((w.alloc (.cells #[.slice gA k.globals.length gc, .slice lA k.locks.length lc, .slice pA k.procs.length pc, .slice eA0 k.entry.length ec, .slice (some ai) k.ins.length ic] 28)).alloc (.cells #[] 66)).ownsRow (w.heap.size + 1) 66 4 (.slice (some ⟨w.heap.size + 1, 0, none⟩) 0 0) 0 (tCells []) := by
        have := World.ownsRow_lit (base := w.heap.size + 1) (e := 66) (size := 4) (w.alloc (.cells #[.slice gA k.globals.length gc, .slice lA k.locks.length lc, .slice pA k.procs.length pc, .slice eA0 k.entry.length ec, .slice (some ai) k.ins.length ic] 28)) #[] 0 (by simp) (by simp) rfl
        simpa [tCells] using this
      go_wp2_with fail
      have h0w2 := below_trans' (below_trans' b1 b1a) b2
      refine (HRD.out _ h0w2).mono ?_
      rintro e w2 ⟨Ar, cr, rfl, hor, hb2⟩
      have h02 := below_trans' h0w2 hb2
      have hbx2 := (hbx1.to b2).to hb2
      have o02 := cell_below hb2 o0
      have o12 := cell_below hb2 o1
      have hobx : (((w.alloc (.cells #[.slice gA k.globals.length gc, .slice lA k.locks.length lc, .slice pA k.procs.length pc, .slice eA0 k.entry.length ec, .slice (some ai) k.ins.length ic] 28)).alloc (.cells #[] 66))).heap.size < w2.heap.size := Nat.lt_of_lt_of_le (World.block_lt_of_cell? _ _ o0) hb2.size
      rw [show (((w.alloc (.cells #[.slice gA k.globals.length gc, .slice lA k.locks.length lc, .slice pA k.procs.length pc, .slice eA0 k.entry.length ec, .slice (some ai) k.ins.length ic] 28)).alloc (.cells #[] 66))).heap.size = w.heap.size + 1 + 1 from by simp] at o02 o12 hobx
      have ho2 := own_below (own_below ho0 b2) hb2
      have hw1 : w.heap.size + 1 < w2.heap.size := (ho2.lt _ rfl).2
      have horb : w.heap.size + 1 < ((((w.alloc (.cells #[.slice gA k.globals.length gc, .slice lA k.locks.length lc, .slice pA k.procs.length pc, .slice eA0 k.entry.length ec, .slice (some ai) k.ins.length ic] 28)).alloc (.cells #[] 66))).alloc (.cells #[.int .i64 2, .int .i64 (argN k a), .int .i64 k.ins[a].term.kind, .int .i64 k.ins[a].term.num, .string k.ins[a].term.name, .slice A' k.ins[a].term.kids.length c', .int .i64 k.ins[a].to] 52)).heap.size := by simp
      have HRDN := Lib.hid (fun V (h : Tch (w.heap.size + 1) (w.heap.size + 1) (w.heap.size + 1) w2 V) => own_rd (h.own hor horb horb horb))
      have HBT := Lib.hid (fun V (h : Tch (w.heap.size + 1) (w.heap.size + 1) (w.heap.size + 1) w2 V) => h.below (B := w.heap.size + 1) (by omega) (Nat.le_refl _) (Nat.le_refl _) (Nat.le_refl _))
      have HCN := Lib.hid (fun nm V (h : Tch (w.heap.size + 1) (w.heap.size + 1) (w.heap.size + 1) w2 V) => l04Has_any Ar cr (readsOf k.ins[a].term) nm V (HRDN.out _ h) (by omega))
      have hobn : w.heap.size + 1 + 1 ≠ w.heap.size + 1 := by omega
      have HO0 := Lib.hid (fun V (h : Tch (w.heap.size + 1) (w.heap.size + 1) (w.heap.size + 1) w2 V) => (World.cell?_of_block (h.block _ hobx hobn hobn hobn)).trans o02)
      have HO1 := Lib.hid (fun V (h : Tch (w.heap.size + 1) (w.heap.size + 1) (w.heap.size + 1) w2 V) => (World.cell?_of_block (h.block _ hobx hobn hobn hobn)).trans o12)
      have HBX := Lib.hid (fun V (h : Tch (w.heap.size + 1) (w.heap.size + 1) (w.heap.size + 1) w2 V) => CodeBox.at (w := w) (v := ⟨gA, lA, pA, eA0, some ai, gc, lc, pc, ec, ic⟩) (k := k) hbx2 (HBT.out _ h) (by omega))
      obtain ⟨q1', q2', d0, d1, d2, d3, d4⟩ := id hbx2
      clear b1 b2 kk0 kk1 kk2 kk3 kk4 kk5 kk6 o0 o1 c0 c1 c2 c3 c4 q1 q2 k0 k1 k2 k3 k4 k5 k6 hor hb2 h0w2 hkid b1a ho0 hobn horb hobx
      go_wp2_with fail
      clear d0 d1 d2 d3 d4 q1' q2'
      have HP0 := Lib.hid (show touchP k a h 0 = [] from rfl)
      go_loopg [7, 10] k.globals.length (fun l out i wr => ∃ j : Nat, j ≤ k.globals.length ∧ l = k.globals.length - j ∧ i = .int .i64 j ∧ wr.ownsRow (w.heap.size + 1) 66 4 out (touchP k a h j).length (tCells (touchP k a h j)) ∧ OBk (w.heap.size + 1) w2.heap.size out ∧ Tch (w.heap.size + 1) (w.heap.size + 1) (w.heap.size + 1) w2 wr)
      case atStart => exact ⟨0, by omega, by omega, rfl, ho2, fun b hb => .inl (by injection hb with hb; exact hb.symm), Tch.refl _ _ _ _⟩
      case round =>
        clear ho2
        obtain ⟨j, hj, rfl, rfl, ho, hOB, hT⟩ := hrel
        obtain ⟨co, Ao, rfl⟩ : ∃ co Ao, _ := by
          obtain ⟨Ao, co, e⟩ := own_form ho
          exact ⟨co, Ao, e⟩
        have hpl := touchP_len k a h j
        have hszT := hT.size
        have hsz : w.heap.size + 1 ≤ wr.heap.size := by omega
        have o0 := HO0.out _ hT
        have o1 := HO1.out _ hT
        obtain ⟨q1, q2, c0, c1, c2, c3, c4⟩ := id (HBX.out _ hT)
        by_cases hlt : j < k.globals.length
        · have hgx := HGC.out _ (HBX.out _ hT).1
          obtain ⟨adg, eg, _, hcg⟩ := hgx j (sv k.globals[j]) (by simp [hlt])
          subst eg
          have z1 : (0 : Int) ≤ (j : Int) := by omega
          have z2 : (j : Int) < (k.globals.length : Int) := by omega
          have HRB := Lib.hid (show readsB k a j = decide (k.globals[j] ∈ readsOf k.ins[a].term) from by simp [readsB, hlt, HRA.out])
          have hcn := HCN.out k.globals[j] wr hT
          rw [← HRB.out] at hcn
          have HCNJ := Lib.hid hcn
          clear hcn
          generalize k.globals[j] = nm at *
          cases hrb : readsB k a j
          · have hcn := HCNJ.out
            rw [hrb] at hcn
            have hcn := Lib.hid hcn
            · skip
              have HT2 := Lib.hid (show touchP k a h (j + 1) = touchP k a h j ++ [] from by have hop := HOP.out; rw [touchP_snoc]; simp [touchF, hrb, hop])
              clear hrb HCNJ HRB 
              go_wp2_with fail
              refine hcn.out.mono ?_
              rintro e w3 ⟨rfl, rfl⟩
              go_wp2_with fail
              go_roundg (k.globals.length - (j + 1))
              case measure => omega
              case rel => exact ⟨j + 1, by omega, rfl, by go_num, by rw [HT2.out, List.append_nil]; exact ho, hOB, hT⟩
          · have hcn := HCNJ.out
            rw [hrb] at hcn
            have hcn := Lib.hid hcn
            · skip
              have HT2 := Lib.hid (show touchP k a h (j + 1) = touchP k a h j ++ [⟨a, j, false, h⟩] from by have hop := HOP.out; rw [touchP_snoc]; simp [touchF, hrb, hop])
              clear hrb HCNJ HRB 
              go_wp2_with fail
              refine hcn.out.mono ?_
              rintro e w3 ⟨rfl, rfl⟩
              go_wp2_with (at_builtin; first | (refine append_touch ⟨a, j, false, h⟩ rfl _ _ rfl ho rfl rfl (by omega) hsz ?_; intro A2 c2 w2x ho2 hg2 hv2; have hT2 := hT.app hg2 hOB; have hOB2 := hOB.app hv2 (hszT); have hszT2 := hT2.size; have hsz2 : w.heap.size + 1 ≤ w2x.heap.size := (by omega); have o02 := HO0.out _ hT2; have o12 := HO1.out _ hT2; obtain ⟨p21, p22, e20, e21, e22, e23, e24⟩ := id (HBX.out _ hT2)))
              go_roundg (k.globals.length - (j + 1))
              case measure => omega
              case rel => exact ⟨j + 1, by omega, rfl, by go_num, by rw [HT2.out, List.length_append]; exact ho2, hOB2, hT2⟩
        · obtain rfl : j = k.globals.length := by omega
          have HFI := Lib.hid (show NewT w (touchL k a h) (.returned (.slice Ao (touchP k a h k.globals.length).length co)) wr from by
            rw [HTL.out]
            exact ⟨Ao, co, rfl, own_mono ho (by omega), (HBX.out _ hT).1⟩)
          go_wp2_with fail
          go_ret
          exact HFI.out
  · have HZ := Lib.hid (show touchL k a h = [] from by unfold touchL; rw [if_neg h12])
    have n1 : (opN k a != 1) = true := by simp only [bne_iff_ne, ne_eq]; exact fun e => h12 (.inl e)
    have n2 : (opN k a != 2) = true := by simp only [bne_iff_ne, ne_eq]; exact fun e => h12 (.inr e)
    clear hkf kkid hk hcb
    go_enter Tryz.func186, Tryz.ntmps186
    have b1 := below_alloc0 w (.cells #[.slice gA k.globals.length gc, .slice lA k.locks.length lc, .slice pA k.procs.length pc, .slice eA0 k.entry.length ec, .slice (some ai) k.ins.length ic] 28)
    have b1a := below_alloc0 (w.alloc (.cells #[.slice gA k.globals.length gc, .slice lA k.locks.length lc, .slice pA k.procs.length pc, .slice eA0 k.entry.length ec, .slice (some ai) k.ins.length ic] 28)) (.cells #[] 66)
    have b2 := below_alloc0 ((w.alloc (.cells #[.slice gA k.globals.length gc, .slice lA k.locks.length lc, .slice pA k.procs.length pc, .slice eA0 k.entry.length ec, .slice (some ai) k.ins.length ic] 28)).alloc (.cells #[] 66)) (.cells #[.int .i64 (opN k a), .int .i64 (argN k a), .int .i64 k.ins[a].term.kind, .int .i64 k.ins[a].term.num, .string k.ins[a].term.name, .slice A' k.ins[a].term.kids.length c', .int .i64 k.ins[a].to] 52)
    have hbx1 := hbx.to b1a
    obtain ⟨q1, q2, c0, c1, c2, c3, c4⟩ := id hbx1
    have kk0 := cell_below b1a (cell_below b1 k0)
    have kk1 := cell_below b1a (cell_below b1 k1)
    have kk2 := cell_below b1a (cell_below b1 k2)
    have kk3 := cell_below b1a (cell_below b1 k3)
    have kk4 := cell_below b1a (cell_below b1 k4)
    have kk5 := cell_below b1a (cell_below b1 k5)
    have kk6 := cell_below b1a (cell_below b1 k6)
    have o0 := box_cell ((w.alloc (.cells #[.slice gA k.globals.length gc, .slice lA k.locks.length lc, .slice pA k.procs.length pc, .slice eA0 k.entry.length ec, .slice (some ai) k.ins.length ic] 28)).alloc (.cells #[] 66)) #[.int .i64 (opN k a), .int .i64 (argN k a), .int .i64 k.ins[a].term.kind, .int .i64 k.ins[a].term.num, .string k.ins[a].term.name, .slice A' k.ins[a].term.kids.length c', .int .i64 k.ins[a].to] 52 0 rfl
    have o1 := box_cell ((w.alloc (.cells #[.slice gA k.globals.length gc, .slice lA k.locks.length lc, .slice pA k.procs.length pc, .slice eA0 k.entry.length ec, .slice (some ai) k.ins.length ic] 28)).alloc (.cells #[] 66)) #[.int .i64 (opN k a), .int .i64 (argN k a), .int .i64 k.ins[a].term.kind, .int .i64 k.ins[a].term.num, .string k.ins[a].term.name, .slice A' k.ins[a].term.kids.length c', .int .i64 k.ins[a].to] 52 1 rfl
    have ho0 : ((w.alloc (.cells #[.slice gA k.globals.length gc, .slice lA k.locks.length lc, .slice pA k.procs.length pc, .slice eA0 k.entry.length ec, .slice (some ai) k.ins.length ic] 28)).alloc (.cells #[] 66)).ownsRow (w.heap.size + 1) 66 4 (.slice (some ⟨w.heap.size + 1, 0, none⟩) 0 0) 0 (tCells []) := by
      have := World.ownsRow_lit (base := w.heap.size + 1) (e := 66) (size := 4) (w.alloc (.cells #[.slice gA k.globals.length gc, .slice lA k.locks.length lc, .slice pA k.procs.length pc, .slice eA0 k.entry.length ec, .slice (some ai) k.ins.length ic] 28)) #[] 0 (by simp) (by simp) rfl
      simpa [tCells] using this
    clear h12
    go_wp2_with fail
    go_ret
    rw [HZ.out]
    exact ⟨_, _, rfl, own_mono (own_below ho0 b2) (by omega), below_trans' (below_trans' b1 b1a) b2⟩

/-- What TouchesAt answers. -/
noncomputable def atT (k : Cd) (x : Int) : List Tt := if (codeOkI k && (decide (0 ≤ x) && decide (x < k.ins.length))) = true then touchL k x.toNat (gt (mustN k) x.toNat) else []
theorem atT_no {k : Cd} {x : Int} (h : (codeOkI k && (decide (0 ≤ x) && decide (x < k.ins.length))) = false) : atT k x = [] := by rw [atT, if_neg (by rw [h]; simp)]
theorem atT_yes {k : Cd} {a : Nat} (h : codeOkI k = true) (ha : a < k.ins.length) : atT k a = touchL k a (gt (mustN k) a) := by
  rw [atT, if_pos (by simp [h]; exact ha), Int.toNat_natCast]
theorem atT_len (k : Cd) (x : Int) : (atT k x).length ≤ 2 * k.globals.length := by
  unfold atT
  split
  · exact touchL_len _ _ _
  · simp

end Go.Proofs.YtkgoajnnkimkaaaGreat
