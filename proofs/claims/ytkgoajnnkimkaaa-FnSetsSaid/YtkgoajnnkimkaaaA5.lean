/- Contracts of ReadsOf and of what it calls, of the program and of the reference. -/
import Derived.Test.YtkgoajnnkimkaaaA4
set_option linter.unusedSimpArgs false
set_option linter.unusedVariables false
set_option maxRecDepth 100000
set_option maxHeartbeats 16000000
namespace Go.Proofs.Ytkgoajnnkimkaaa
open Go.ChangeShapes Go.WideShapes Go.ChangeAt Go.RowKit
theorem info_string : (Try.prog.info? 9).map (fun i=>(i.zero,i.size,i.bytes)) = some (some (.string ⟨#[]⟩),1,16):=by kernel_rfl
theorem append_str {ops : Array Oper} {rest : List Oper} {o : Oper} {a : Act} {Q : Exit → Act → World → Prop} {wr : World} (hgd : o.guard = none) (s x : Operand) (ho : o.op = .call { callee := .builtin .append, args := #[s, x], argTypes := #[41, 41] })
  {base : Nat} {v : Value} {n : Nat} {xs : List ByteArray} {z : ByteArray} (hown : wr.ownsRow base 9 1 v n (xs.map sv)) (hs : a.eval s = v) (hx : a.eval x = .slice (some ⟨wr.heap.size,0,none⟩) 1 1)
  (hn : n ≤ 1099511627775) (hbase : base ≤ wr.heap.size)
  (hK : ∀ A c w',w'.ownsRow base 9 1 (.slice A (n + 1) c) (n + 1) ((xs ++ [z]).map sv) → wr.grownBy w' v.ownBlock → ((Value.slice A (n + 1) c).ownBlock = v.ownBlock ∨ (Value.slice A (n + 1) c).ownBlock = some (wr.heap.size + 1)) →
   wpList Try.prog ops Q rest (a.put o.dst (.slice A (n + 1) c)) w') : wpList Try.prog ops Q (o :: rest) a (wr.alloc (.cells #[.string z] 9)) :=
 append_cells Try.underlying41 info_string rfl (by omega) (by omega) hgd s x ho [.string z] hown hs hx rfl (by simp [Value.oneCell']) hn hbase
  fun A c w' h1 h2 h3=>hK A c w' (by simpa [sv] using h1) h2 h3
def addOnce (acc : List ByteArray) (s : ByteArray) : List ByteArray:=if s ∈ acc then acc else acc ++ [s]
def Grew (w : World) (base : Nat) (t : TypeId) (ss : List ByteArray) (e : Ending) (w' : World) : Prop :=
 ∃ A c,e = .returned (.slice A ss.length c) ∧ w'.ownsRow base t 1 (.slice A ss.length c) ss.length (ss.map sv) ∧ Below base w w'
theorem addOnce_any {base : Nat} (A : Option Addr) (c : Nat) (acc : List ByteArray) (s : ByteArray) (w : World) (ho : w.ownsRow base 9 1 (.slice A acc.length c) acc.length (acc.map sv)) (hn : acc.length ≤ 1000000) (hB : base ≤ w.heap.size) :
  Calls Try.prog 93 #[.slice A acc.length c,.string s] w (Grew w base 9 (addOnce acc s)):=by
 have hr:=own_rd ho;by_cases hm : s ∈ acc
 ·
  have HM:=Lib.hid hm;have hd : decide (s ∈ acc) = true:=decide_eq_true hm;have HD:=Lib.hid hd;clear hm hd
  go_enter Try.func93, Try.ntmps93
  go_wp2_with (go_at_call 54;refine (sContains_any _ _ _ _ _ hr (by omega)).mono ?_;rintro e w' ⟨rfl,rfl⟩;rw [HD.out])
  go_ret
  have e : addOnce acc s = acc:=by rw [addOnce,if_pos HM.out]
  rw [e];exact ⟨A,c,rfl,ho,Below.refl _ _⟩
 ·
  have HM:=Lib.hid hm;have hd : decide (s ∈ acc) = false:=decide_eq_false hm;have HD:=Lib.hid hd;clear hm hd
  go_enter Try.func93, Try.ntmps93
  go_wp2_with (first
   | (go_at_call 54;refine (sContains_any _ _ _ _ _ hr (by omega)).mono ?_;rintro e w' ⟨rfl,rfl⟩;rw [HD.out])
   | (at_builtin;refine append_str rfl _ _ rfl ho rfl rfl (by omega) hB ?_;intro A' c' w1 ho1 hg1 _))
  go_ret
  have e : addOnce acc s = acc ++ [s]:=by rw [addOnce,if_neg HM.out]
  rw [e];refine ⟨A',c',by simp,by simpa using ho1,below_append (Below.refl _ _) ho hg1 hB (Nat.le_refl _)⟩
def readsF : Nat → Tm → List ByteArray → List ByteArray
 | 0,t,acc=>if t.kind = 2 then addOnce acc t.name else acc
 | d + 1,t,acc=>if t.kind = 2 then addOnce acc t.name else t.kids.foldl (fun acc t=>readsF d t acc) acc
theorem addOnce_len (acc : List ByteArray) (s : ByteArray) : (addOnce acc s).length ≤ acc.length + 1:=by
 unfold addOnce;split <;> simp
theorem termOk_kids {d : Nat} {t : Tm} (h : termOk d t = true) (h2 : t.kind ≠ 2) : t.kids = [] ∨ ∃ d',d = d' + 1 ∧ t.kids.length ≤ 2 ∧ ∀ k ∈ t.kids,termOk d' k = true:=by
 have leaf : leafOk t = true → t.kids = []:=by
  intro h;simp only [leafOk,h2,Bool.or_eq_true,Bool.and_eq_true,decide_eq_true_eq,false_and,or_false] at h;exact List.eq_nil_of_length_eq_zero h.2.2
 cases d with
 | zero=>exact .inl (leaf h)
 | succ d =>
  simp only [termOk,Bool.or_eq_true,Bool.and_eq_true] at h;rcases h with h | ⟨hn,ha⟩
  · exact .inl (leaf h)
  · obtain ⟨_,_,hl,_⟩:=nodeOk_parts hn;exact .inr ⟨d,rfl,by rw [hl];split <;> omega,by simpa using ha⟩
theorem readsF_len (d : Nat) : ∀ (t : Tm) (acc : List ByteArray),termOk d t = true → (readsF d t acc).length ≤ acc.length + 2 ^ d:=by
 induction d with
 | zero =>
  intro t acc _;unfold readsF;split
  · exact addOnce_len _ _
  · omega
 | succ d ih =>
  intro t acc h;unfold readsF;split
  · have:=addOnce_len acc t.name;have:=Nat.two_pow_pos (d + 1);omega
  ·
   rename_i h2;have key : ∀ (ks : List Tm) (acc : List ByteArray),(∀ k ∈ ks,termOk d k = true) → (ks.foldl (fun acc t=>readsF d t acc) acc).length ≤ acc.length + ks.length * 2 ^ d:=by
    intro ks;induction ks with
    | nil=>intro acc _;simp
    | cons k ks ihk =>
     intro acc hk;have h1:=ihk (readsF d k acc) (fun x hx=>hk x (by simp [hx]));have h2:=ih k acc (hk k (by simp));simp only [List.foldl_cons,List.length_cons,Nat.add_mul];omega
   rcases termOk_kids h h2 with h3 | ⟨d',e,hl,hk⟩
   · rw [h3];simp
   ·
    obtain rfl : d = d':=by omega
    have h4:=key t.kids acc hk;have h5 : t.kids.length * 2 ^ d ≤ 2 * 2 ^ d:=Nat.mul_le_mul_right _ hl;rw [Nat.pow_succ];omega
def AddReadsSaid (d : Nat) : Prop := ∀ {base L : Nat} (t : Tm) (A : Option Addr) (c : Nat) (LA : Option Addr) (lc : Nat) (acc : List ByteArray) (w : World), KidsAt w base A t.kids → TmB L t → L ≤ 1099511627776 → termOk d t = true →
  w.ownsRow base 9 1 (.slice LA acc.length lc) acc.length (acc.map sv) → base ≤ w.heap.size → acc.length + 2 ^ d ≤ 1000 →
  Calls Try.prog 77 #[.slice LA acc.length lc,.agg #[.int .i64 t.kind,.int .i64 t.num,.string t.name,.slice A t.kids.length c]] w (Grew w base 9 (readsF d t acc))
theorem foldl_take_succ {α β : Type} (f : β → α → β) (l : List α) (b : β) (k : Nat) (h : k < l.length) : (l.take (k + 1)).foldl f b = f ((l.take k).foldl f b) l[k]:=by
 rw [List.take_succ_eq_append_getElem h,List.foldl_append];rfl
theorem fold_len {d : Nat} {t : Tm} (ks : List Tm) (acc : List ByteArray) (hk : ∀ k ∈ ks,termOk d k = true) : (ks.foldl (fun acc t=>readsF d t acc) acc).length ≤ acc.length + ks.length * 2 ^ d:=by
 induction ks generalizing acc with
 | nil=>simp
 | cons k ks ihk =>
  have h1:=ihk (readsF d k acc) (fun x hx=>hk x (by simp [hx]));have h2:=readsF_len d k acc (hk k (by simp));simp only [List.foldl_cons,List.length_cons,Nat.add_mul];omega
theorem addReads_var {base L : Nat} (t : Tm) (A : Option Addr) (c : Nat) (LA : Option Addr) (lc : Nat) (acc : List ByteArray) (w : World) (h2 : t.kind = 2)
  (ho : w.ownsRow base 9 1 (.slice LA acc.length lc) acc.length (acc.map sv)) (hB : base ≤ w.heap.size) (hlen : acc.length ≤ 1000) :
  Calls Try.prog 77 #[.slice LA acc.length lc,.agg #[.int .i64 t.kind,.int .i64 t.num,.string t.name,.slice A t.kids.length c]] w (Grew w base 9 (addOnce acc t.name)):=by
 rw [h2];clear h2
 go_enter Try.func77, Try.ntmps77
 go_wp2_with fail
 refine (addOnce_any LA lc acc t.name _ (ho.alloc _) (by omega) (by simp;omega)).mono ?_;rintro e w1 ⟨A1,c1,rfl,ho1,hb1⟩;go_wp2_with fail
 go_ret
 exact ⟨A1,c1,rfl,ho1,((Below.refl _ _).alloc hB _).trans hb1⟩
theorem addReads_any (d : Nat) : AddReadsSaid d:=by
 induction d with
 | zero =>
  intro base L t A c LA lc acc w hk hb hL hok ho hB hlen;by_cases h2 : t.kind = 2
  ·
   have e : readsF 0 t acc = addOnce acc t.name:=by rw [readsF,if_pos h2]
   rw [e];exact addReads_var (L:=L) t A c LA lc acc w h2 ho hB (Nat.le_trans (Nat.le_add_right _ _) hlen)
  ·
   have e2 : (t.kind == 2) = false:=by simp [h2]
   have hkids : t.kids = []:=by
    rcases termOk_kids hok h2 with h | ⟨d',h,_⟩
    · exact h
    · omega
   have e : readsF 0 t acc = acc:=by rw [readsF,if_neg h2]
   rw [e,hkids];clear e
   go_enter Try.func77, Try.ntmps77
   go_wp2_with fail
   go_loopw [0,17] (fun v i wr=>v = .slice LA acc.length lc ∧ i = .int .i64 0 ∧ wr.ownsRow base 9 1 (.slice LA acc.length lc) acc.length (acc.map sv) ∧ Below base w wr) (fun _ _ _=>0)
   case atStart=>exact ⟨rfl,rfl,ho.alloc _,(Below.refl _ _).alloc hB _⟩
   case round =>
    obtain ⟨rfl,rfl,ho1,hb1⟩:=hrel;go_wp2_with fail
    go_ret
    exact ⟨LA,lc,rfl,ho1,hb1⟩
 | succ d ih =>
  intro base L t A c LA lc acc w hk hb hL hok ho hB hlen;by_cases h2 : t.kind = 2
  ·
   have e : readsF (d + 1) t acc = addOnce acc t.name:=by rw [readsF,if_pos h2]
   rw [e];exact addReads_var (L:=L) t A c LA lc acc w h2 ho hB (Nat.le_trans (Nat.le_add_right _ _) hlen)
  ·
   have e2 : (t.kind == 2) = false:=by simp [h2]
   have HO:=Lib.hid (show readsF (d + 1) t acc = t.kids.foldl (fun acc t=>readsF d t acc) acc from by rw [readsF,if_neg h2]);have hkok : t.kids.length ≤ 2 ∧ ∀ k ∈ t.kids,termOk d k = true:=by
    rcases termOk_kids hok h2 with h | ⟨d',h,h3,h4⟩
    · rw [h];exact ⟨by simp,by simp⟩
    ·
     obtain rfl : d = d':=by omega
     exact ⟨h3,h4⟩
   obtain ⟨hl2,hkok⟩:=hkok;have HKO:=Lib.hid hkok;have hlen' : acc.length + 2 * 2 ^ d ≤ 1000:=by rw [Nat.pow_succ] at hlen;omega
   have HLEN:=Lib.hid hlen';clear hkok hlen hlen' h2
   go_enter Try.func77, Try.ntmps77
   go_wp2_with fail
   go_loopw [0, 17] (fun v i wr => ∃ (k : Nat) (LA' : Option Addr) (lc' : Nat) (acc' : List ByteArray), k ≤ t.kids.length ∧ i = .int .i64 k ∧ acc' = (t.kids.take k).foldl (fun acc t => readsF d t acc) acc ∧ v = .slice LA' acc'.length lc' ∧
     wr.ownsRow base 9 1 (.slice LA' acc'.length lc') acc'.length (acc'.map sv) ∧ Below base w wr) (fun _ i _=>t.kids.length - (intOf i).toNat)
   case atStart=>exact ⟨0,LA,lc,acc,by omega,rfl,rfl,rfl,ho.alloc _,(Below.refl _ _).alloc hB _⟩
   case round =>
    obtain ⟨k,LA',lc',acc',hkl,rfl,hacc,rfl,ho1,hb1⟩:=hrel;have HA:=Lib.hid hacc;clear hacc;have hsz:=hb1.size;by_cases hlt : k < t.kids.length
    ·
     have hkr:=hk.below hb1;obtain ⟨ad,A',c',rfl,hbk,c0,c1,c2,c3,hkk⟩:=hkr.get hlt;have hbk' : (ad.add (k * 4)).block < wr.heap.size:=by omega
     have HF:=Lib.hid (foldl_take_succ (fun acc t=>readsF d t acc) t.kids acc k hlt);have hal : acc'.length + 2 ^ d ≤ 1000:=by
      have h1:=fold_len (t:=t) (t.kids.take k) acc (d:=d) (fun x hx=>HKO.out x (List.mem_of_mem_take hx));rw [← HA.out,List.length_take_of_le hkl] at h1;have h2:=HLEN.out;have h3 : k * 2 ^ d ≤ 1 * 2 ^ d:=Nat.mul_le_mul_right _ (by omega);omega
     have HAL:=Lib.hid hal;clear hal;go_wp2_with fail
     refine (ih t.kids[k] A' c' LA' lc' acc' _ (hkk.below ((Below.refl _ _).alloc (by omega) _)) (hb.kid k hlt) hL (HKO.out _ (List.getElem_mem hlt)) (ho1.alloc _) (by simp;omega) HAL.out).mono ?_;rintro e w1 ⟨A1,c1,rfl,ho2,hb2⟩;go_wp2_with fail
     go_roundw
     case rel=>exact ⟨k + 1,A1,c1,_,by omega,by go_num,by rw [HF.out,← HA.out],rfl,ho2,(hb1.alloc (by omega) _).trans hb2⟩
     case measure=>simp [intOf];omega
    ·
     go_wp2_with fail
     go_ret
     have e : acc' = readsF (d + 1) t acc:=by rw [HO.out,HA.out,List.take_of_length_le (by omega)]
     rw [← e];exact ⟨LA',lc',rfl,ho1,hb1⟩
def readsOf (t : Tm) : List ByteArray:=if termOk 6 t then readsF 6 t [] else []
theorem readsOf_i {B L : Nat} (t : Tm) (A : Option Addr) (c : Nat) (w : World) (hk : KidsAt w B A t.kids) (hb : TmB L t) (hL : L ≤ 1099511627776) :
  Calls Try.prog 57 #[.agg #[.int .i64 t.kind,.int .i64 t.num,.string t.name,.slice A t.kids.length c]] w (NewRow w 9 1 (readsOf t).length ((readsOf t).map sv)):=by
 have hk:=hk.full;cases hok : termOk 6 t
 ·
  have e : readsOf t = []:=by simp [readsOf,hok]
  rw [e];have HO:=Lib.hid hok;clear hok e
  go_enter Try.func57, Try.ntmps57
  go_wp2_with fail
  refine (termOk_i t A c _ (hk.below (below_alloc0 _ _)) hb hL).mono ?_;rintro e w1 ⟨rfl,hb1⟩;rw [HO.out];go_wp2_with fail
  go_ret
  exact ⟨none,0,rfl,World.ownsRow_nil _ _ _ _,below_trans' (below_alloc0 _ _) hb1⟩
 ·
  have e : readsOf t = readsF 6 t []:=by simp [readsOf,hok]
  rw [e];have HO:=Lib.hid hok;clear hok e
  go_enter Try.func57, Try.ntmps57
  go_wp2_with fail
  have b0:=box_cell w #[.int .i64 t.kind,.int .i64 t.num,.string t.name,.slice A t.kids.length c] 75 0 rfl;have b1:=box_cell w #[.int .i64 t.kind,.int .i64 t.num,.string t.name,.slice A t.kids.length c] 75 1 rfl;have b2:=box_cell w #[.int .i64 t.kind,.int .i64 t.num,.string t.name,.slice A t.kids.length c] 75 2 rfl;have b3:=box_cell w #[.int .i64 t.kind,.int .i64 t.num,.string t.name,.slice A t.kids.length c] 75 3 rfl;have hb0:=below_alloc0 w (.cells #[.int .i64 t.kind,.int .i64 t.num,.string t.name,.slice A t.kids.length c] 75);generalize w.alloc (.cells #[.int .i64 t.kind,.int .i64 t.num,.string t.name,.slice A t.kids.length c] 75) = W at b0 b1 b2 b3 hb0 ⊢;refine (termOk_i t A c _ (hk.below hb0) hb hL).mono ?_;rintro e w1 ⟨rfl,hb1⟩;rw [HO.out];have c0:=cell_below hb1 b0;have c1:=cell_below hb1 b1;have c2:=cell_below hb1 b2;have c3:=cell_below hb1 b3;have hb01:=below_trans' hb0 hb1;go_wp2_with fail
  refine (addReads_any 6 t A c none 0 [] _ ((hk.below hb01).full) hb hL HO.out (World.ownsRow_nil _ _ _ _) (Nat.le_refl _) (by simp)).mono ?_;rintro e w2 ⟨A2,c2,rfl,ho2,hb2⟩;go_wp2_with fail
  go_ret
  exact ⟨A2,c2,rfl,own_mono ho2 hb01.size,below_trans' hb01 hb2⟩
end Go.Proofs.Ytkgoajnnkimkaaa
namespace Go.Proofs.Ytkgoajnnkimkaaa
open Go.ChangeShapes Go.WideShapes Go.ChangeAt Go.RowKit
def NewOr (b old : Option Nat) (n : Nat) : Prop:=b = old ∨ ∃ g,n ≤ g ∧ b = some g
theorem NewOr.mono {b old : Option Nat} {n m : Nat} (h : NewOr b old n) (hm : m ≤ n) : NewOr b old m:=by
 rcases h with h | ⟨g,h1,h2⟩
 · exact .inl h
 · exact .inr ⟨g,by omega,h2⟩
theorem NewOr.trans {b c old : Option Nat} {n m : Nat} (h : NewOr c b n) (k : NewOr b old m) (hm : m ≤ n) : NewOr c old m:=by
 rcases h with h | ⟨g,h1,h2⟩
 · rw [h];exact k
 · exact .inr ⟨g,by omega,h2⟩
theorem grown_below {w w' : World} (h : Below w.heap.size w w') (row : Option Nat) : w.grownBy w' row:=⟨h.os,h.tape,h.output,h.size,fun i hi _=>h.block i hi⟩
theorem grown_new {a b c : World} {r s : Option Nat} (h : a.grownBy b r) (k : b.grownBy c s) (hn : NewOr s r a.heap.size) : a.grownBy c r:=by
 refine ⟨k.os.trans h.os,k.tape.trans h.tape,k.output.trans h.output,Nat.le_trans h.size k.size,fun i hi hne=>?_⟩;refine (k.block i (Nat.lt_of_lt_of_le hi h.size) fun e=>?_).trans (h.block i hi hne);rcases hn with hn | ⟨g,h1,h2⟩
 · exact hne (e.trans hn)
 · rw [h2] at e;injection e with e;omega
def Grew2 (w : World) (v : Value) (base : Nat) (t : TypeId) (ss : List ByteArray) (e : Ending) (w' : World) : Prop :=
 ∃ A c,e = .returned (.slice A ss.length c) ∧ w'.ownsRow base t 1 (.slice A ss.length c) ss.length (ss.map sv) ∧ w.grownBy w' v.ownBlock ∧ NewOr (Value.slice A ss.length c).ownBlock v.ownBlock w.heap.size
def L03ReadsSaid (d : Nat) : Prop := ∀ {base L : Nat} (t : Tm) (A : Option Addr) (c : Nat) (LA : Option Addr) (lc : Nat) (acc : List ByteArray) (w : World), KidsAt w base A t.kids → TmB L t → L ≤ 1099511627776 → termOk d t = true →
  w.ownsRow base 9 1 (.slice LA acc.length lc) acc.length (acc.map sv) → base ≤ w.heap.size → acc.length + 2 ^ d ≤ 1000 →
  Calls Try.prog 116 #[.agg #[.int .i64 t.kind,.int .i64 t.num,.string t.name,.slice A t.kids.length c],.slice LA acc.length lc] w (Grew2 w (.slice LA acc.length lc) base 9 (readsF d t acc))
theorem l03Reads_var {base : Nat} (t : Tm) (A : Option Addr) (c : Nat) (LA : Option Addr) (lc : Nat) (acc : List ByteArray) (w : World) (h2 : t.kind = 2)
  (ho : w.ownsRow base 9 1 (.slice LA acc.length lc) acc.length (acc.map sv)) (hB : base ≤ w.heap.size) (hlen : acc.length ≤ 1000) :
  Calls Try.prog 116 #[.agg #[.int .i64 t.kind,.int .i64 t.num,.string t.name,.slice A t.kids.length c],.slice LA acc.length lc] w (Grew2 w (.slice LA acc.length lc) base 9 (addOnce acc t.name)):=by
 rw [h2];clear h2
 go_enter Try.func116, Try.ntmps116
 go_wp2_with fail
 have b2:=box_cell w #[.int .i64 2,.int .i64 t.num,.string t.name,.slice A t.kids.length c] 75 2 rfl;have hb0:=below_alloc0 w (.cells #[.int .i64 2,.int .i64 t.num,.string t.name,.slice A t.kids.length c] 75);have hs0:=alloc_size w (.cells #[.int .i64 2,.int .i64 t.num,.string t.name,.slice A t.kids.length c] 75);have ho0:=ho.alloc (.cells #[.int .i64 2,.int .i64 t.num,.string t.name,.slice A t.kids.length c] 75);generalize w.alloc (.cells #[.int .i64 2,.int .i64 t.num,.string t.name,.slice A t.kids.length c] 75) = W at b2 hb0 hs0 ho0 ⊢;go_loopw [5] (fun i wr=>∃ k : Nat,k ≤ acc.length ∧ i = .int .i64 k ∧ t.name ∉ acc.take k ∧ Drew W wr) (fun i _=>acc.length - (intOf i).toNat)
 case atStart=>exact ⟨0,by omega,rfl,by simp,Drew.refl _⟩
 case round =>
  obtain ⟨k,hkl,rfl,hnot,hq⟩:=hrel;have HN:=Lib.hid hnot;clear hnot;have b2r:=cell_below (hq.below _) b2;have hor:=own_below ho0 (hq.below _);have hszr:=hq.size;have HSZ:=Lib.hid hszr;have hlw : w.heap.size < wr.heap.size:=by omega
  clear hszr;by_cases hlt : k < acc.length
  ·
   obtain ⟨ad,rfl,_,hc⟩:=(own_rd hor).str hlt;by_cases he : acc[k] = t.name
   ·
    have HE:=Lib.hid he;have he' : (acc[k].toList == t.name.toList) = true:=by rw [str_beq,decide_eq_true he]
    clear he;go_wp2_with fail
    go_quiet (fail)
    go_wp2_with fail
    go_ret
    have e : addOnce acc t.name = acc:=by rw [addOnce,if_pos (HE.out ▸ List.getElem_mem hlt)]
    rw [e];exact ⟨some ad,lc,rfl,hor,grown_below (below_drewN (below_trans' hb0 (hq.below _)) _) _,.inl rfl⟩
   ·
    have HE:=Lib.hid he;have he' : (acc[k].toList == t.name.toList) = false:=by rw [str_beq,decide_eq_false he]
    clear he;go_wp2_with fail
    go_quiet (fail)
    go_wp2_with fail
    go_roundw
    case rel=>exact ⟨k + 1,by omega,by go_num,not_mem_take_succ hlt HN.out HE.out,hq.more _⟩
    case measure=>simp [intOf];omega
  ·
   go_wp2_with (at_builtin;refine append_str rfl _ _ rfl hor rfl rfl (by omega) (by omega) ?_;intro A' c' w1 ho1 hg1 hn1)
   go_ret
   have hf : t.name ∉ acc:=by have:=HN.out;rwa [List.take_of_length_le (by omega)] at this
   have e : addOnce acc t.name = acc ++ [t.name]:=by rw [addOnce,if_neg hf]
   rw [e];exact ⟨A',c',by simp,by simpa using ho1,(grown_below (below_trans' hb0 (hq.below _)) _).trans hg1,by
    rcases hn1 with h | h
    · left;simpa using h
    · right;exact ⟨wr.heap.size + 1,by omega,by simpa using h⟩⟩
theorem l03Reads_any (d : Nat) : L03ReadsSaid d:=by
 induction d with
 | zero =>
  intro base L t A c LA lc acc w hk hb hL hok ho hB hlen;by_cases h2 : t.kind = 2
  ·
   have e : readsF 0 t acc = addOnce acc t.name:=by rw [readsF,if_pos h2]
   rw [e];exact l03Reads_var t A c LA lc acc w h2 ho hB (Nat.le_trans (Nat.le_add_right _ _) hlen)
  ·
   have e2 : (t.kind == 2) = false:=by simp [h2]
   have hkids : t.kids = []:=by
    rcases termOk_kids hok h2 with h | ⟨d',h,_⟩
    · exact h
    · omega
   have e : readsF 0 t acc = acc:=by rw [readsF,if_neg h2]
   rw [e,hkids];clear e
   go_enter Try.func116, Try.ntmps116
   go_wp2_with fail
   have b3:=box_cell w #[.int .i64 t.kind,.int .i64 t.num,.string t.name,.slice A 0 c] 75 3 rfl;go_loopw [1,6] (fun v i wr=>v = .slice LA acc.length lc ∧ i = .int .i64 0 ∧ wr = w.alloc (.cells #[.int .i64 t.kind,.int .i64 t.num,.string t.name,.slice A 0 c] 75)) (fun _ _ _=>0)
   case atStart=>exact ⟨rfl,rfl,rfl⟩
   case round =>
    obtain ⟨rfl,rfl,rfl⟩:=hrel;go_wp2_with fail
    go_ret
    exact ⟨LA,lc,rfl,ho.alloc _,World.grownBy_alloc _ _ _,.inl rfl⟩
 | succ d ih =>
  intro base L t A c LA lc acc w hk hb hL hok ho hB hlen;by_cases h2 : t.kind = 2
  ·
   have e : readsF (d + 1) t acc = addOnce acc t.name:=by rw [readsF,if_pos h2]
   rw [e];exact l03Reads_var t A c LA lc acc w h2 ho hB (Nat.le_trans (Nat.le_add_right _ _) hlen)
  ·
   have e2 : (t.kind == 2) = false:=by simp [h2]
   have HO:=Lib.hid (show readsF (d + 1) t acc = t.kids.foldl (fun acc t=>readsF d t acc) acc from by rw [readsF,if_neg h2]);have hkok : t.kids.length ≤ 2 ∧ ∀ k ∈ t.kids,termOk d k = true:=by
    rcases termOk_kids hok h2 with h | ⟨d',h,h3,h4⟩
    · rw [h];exact ⟨by simp,by simp⟩
    ·
     obtain rfl : d = d':=by omega
     exact ⟨h3,h4⟩
   obtain ⟨hl2,hkok⟩:=hkok;have HKO:=Lib.hid hkok;have hlen' : acc.length + 2 * 2 ^ d ≤ 1000:=by rw [Nat.pow_succ] at hlen;omega
   have HLEN:=Lib.hid hlen';clear hkok hlen hlen' h2
   go_enter Try.func116, Try.ntmps116
   go_wp2_with fail
   have b3:=box_cell w #[.int .i64 t.kind,.int .i64 t.num,.string t.name,.slice A t.kids.length c] 75 3 rfl;have hb0:=below_alloc0 w (.cells #[.int .i64 t.kind,.int .i64 t.num,.string t.name,.slice A t.kids.length c] 75);have hs0:=alloc_size w (.cells #[.int .i64 t.kind,.int .i64 t.num,.string t.name,.slice A t.kids.length c] 75);have ho0:=ho.alloc (.cells #[.int .i64 t.kind,.int .i64 t.num,.string t.name,.slice A t.kids.length c] 75);have hne : (Value.slice LA acc.length lc).ownBlock ≠ some w.heap.size:=fun e=>by have:=(ho.lt _ e).2;omega
   generalize w.alloc (.cells #[.int .i64 t.kind,.int .i64 t.num,.string t.name,.slice A t.kids.length c] 75) = W at b3 hb0 hs0 ho0 ⊢;have HNE:=Lib.hid hne;clear hne
   go_loopw [1, 6] (fun v i wr => ∃ (k : Nat) (LA' : Option Addr) (lc' : Nat) (acc' : List ByteArray), k ≤ t.kids.length ∧ i = .int .i64 k ∧ acc' = (t.kids.take k).foldl (fun acc t => readsF d t acc) acc ∧ v = .slice LA' acc'.length lc' ∧
     wr.ownsRow base 9 1 (.slice LA' acc'.length lc') acc'.length (acc'.map sv) ∧ W.grownBy wr (Value.slice LA acc.length lc).ownBlock ∧ NewOr (Value.slice LA' acc'.length lc').ownBlock (Value.slice LA acc.length lc).ownBlock W.heap.size) (fun _ i _=>t.kids.length - (intOf i).toNat)
   case atStart=>exact ⟨0,LA,lc,acc,by omega,rfl,rfl,rfl,ho0,World.grownBy.refl _ _,.inl rfl⟩
   case round =>
    obtain ⟨k,LA',lc',acc',hkl,rfl,hacc,rfl,ho1,hg1,hn1⟩:=hrel;have HA:=Lib.hid hacc;have HN1:=Lib.hid hn1;clear hacc hn1;have hsz:=hg1.size;have c3r : wr.cell? ⟨w.heap.size,3,none⟩ = some (.slice A t.kids.length c):=hg1.cell b3 (fun e=>HNE.out e.symm);have hlw : w.heap.size < wr.heap.size:=by omega
    by_cases hlt : k < t.kids.length
    ·
     have hkr : KidsAt wr base A t.kids:=(hk.below (hb0.mono hB)).keep fun p hp=>World.cell?_of_block (hg1.block p.block (by omega) (fun e=>by have:=(ho.lt _ e.symm).1;omega));obtain ⟨ad,A',c',rfl,hbk,c0,c1,c2,c3,hkk⟩:=hkr.get hlt;have hbk' : (ad.add (k * 4)).block < wr.heap.size:=by omega
     have HF:=Lib.hid (foldl_take_succ (fun acc t=>readsF d t acc) t.kids acc k hlt);have hal : acc'.length + 2 ^ d ≤ 1000:=by
      have h1:=fold_len (t:=t) (t.kids.take k) acc (d:=d) (fun x hx=>HKO.out x (List.mem_of_mem_take hx));rw [← HA.out,List.length_take_of_le hkl] at h1;have h2:=HLEN.out;have h3 : k * 2 ^ d ≤ 1 * 2 ^ d:=Nat.mul_le_mul_right _ (by omega);omega
     have HAL:=Lib.hid hal;clear hal;go_wp2_with fail
     refine (ih t.kids[k] A' c' LA' lc' acc' _ hkk (hb.kid k hlt) hL (HKO.out _ (List.getElem_mem hlt)) ho1 (by omega) HAL.out).mono ?_;rintro e w1 ⟨A1,c1,rfl,ho2,hg2,hn2⟩;go_wp2_with fail
     go_roundw
     case rel=>exact ⟨k + 1,A1,c1,_,by omega,by go_num,by rw [HF.out,← HA.out],rfl,ho2,grown_new hg1 hg2 HN1.out,hn2.trans HN1.out hg1.size⟩
     case measure=>simp [intOf];omega
    ·
     go_wp2_with fail
     go_ret
     have e : acc' = readsF (d + 1) t acc:=by rw [HO.out,HA.out,List.take_of_length_le (by omega)]
     rw [← e];exact ⟨LA',lc',rfl,ho1,grown_new (grown_below hb0 _) hg1 (.inl rfl),HN1.out.mono (by omega)⟩
theorem readsOf_s {B L : Nat} (t : Tm) (A : Option Addr) (c : Nat) (w : World) (hk : KidsAt w B A t.kids) (hb : TmB L t) (hL : L ≤ 1099511627776) :
  Calls Try.prog 110 #[.agg #[.int .i64 t.kind,.int .i64 t.num,.string t.name,.slice A t.kids.length c]] w (NewRow w 9 1 (readsOf t).length ((readsOf t).map sv)):=by
 have hk:=hk.full;cases hok : termOk 6 t
 ·
  have e : readsOf t = []:=by simp [readsOf,hok]
  rw [e];have HO:=Lib.hid hok;clear hok e
  go_enter Try.func110, Try.ntmps110
  go_wp2_with fail
  refine (termOk_s t A c _ (hk.below (below_alloc0 _ _)) hb hL).mono ?_;rintro e w1 ⟨rfl,hb1⟩;rw [HO.out];have hb01:=below_trans' (below_alloc0 _ _) hb1;go_wp2_with fail
  go_ret
  exact ⟨_,_,rfl,World.ownsRow_lit _ #[] 0 hb01.size (by simp) rfl,below_alloc hb01 (Nat.le_refl _) _⟩
 ·
  have e : readsOf t = readsF 6 t []:=by simp [readsOf,hok]
  rw [e];have HO:=Lib.hid hok;clear hok e
  go_enter Try.func110, Try.ntmps110
  go_wp2_with fail
  have b0:=box_cell w #[.int .i64 t.kind,.int .i64 t.num,.string t.name,.slice A t.kids.length c] 75 0 rfl;have b1:=box_cell w #[.int .i64 t.kind,.int .i64 t.num,.string t.name,.slice A t.kids.length c] 75 1 rfl;have b2:=box_cell w #[.int .i64 t.kind,.int .i64 t.num,.string t.name,.slice A t.kids.length c] 75 2 rfl;have b3:=box_cell w #[.int .i64 t.kind,.int .i64 t.num,.string t.name,.slice A t.kids.length c] 75 3 rfl;have hb0:=below_alloc0 w (.cells #[.int .i64 t.kind,.int .i64 t.num,.string t.name,.slice A t.kids.length c] 75);generalize w.alloc (.cells #[.int .i64 t.kind,.int .i64 t.num,.string t.name,.slice A t.kids.length c] 75) = W at b0 b1 b2 b3 hb0 ⊢;refine (termOk_s t A c _ (hk.below hb0) hb hL).mono ?_;rintro e w1 ⟨rfl,hb1⟩;rw [HO.out];have c0:=cell_below hb1 b0;have c1:=cell_below hb1 b1;have c2:=cell_below hb1 b2;have c3:=cell_below hb1 b3;have hb01:=below_trans' hb0 hb1;go_wp2_with fail
  refine (l03Reads_any 6 (base:=w1.heap.size) t A c (some ⟨w1.heap.size,0,none⟩) 0 [] _ (((hk.below hb01).full).below ((Below.refl _ _).alloc (Nat.le_refl _) _)) hb hL HO.out (World.ownsRow_lit _ #[] 0 (Nat.le_refl _) (by simp) rfl) (by simp) (by simp)).mono ?_;rintro e w2 ⟨A2,c2,rfl,ho2,hg2,hn2⟩;go_wp2_with fail
  go_ret
  refine ⟨A2,c2,rfl,own_mono ho2 hb01.size,?_⟩;exact (below_alloc hb01 (Nat.le_refl _) _).grown hg2 (by have:=hb01.size;simp;omega) (fun k hk=>by simp [Value.ownBlock] at hk;have:=hb01.size;omega)
def zeroB (t : Tm) : Bool:=decide (t.kind = 0) && decide (t.num = 0) && t.name.toList.isEmpty && decide (t.kids.length = 0)
theorem isZeroTerm_any (t : Tm) (A : Option Addr) (c : Nat) (w : World) :
  Calls Try.prog 58 #[.agg #[.int .i64 t.kind,.int .i64 t.num,.string t.name,.slice A t.kids.length c]] w fun e w'=>e = .returned (.bool (zeroB t)) ∧ Below w.heap.size w w':=by
 go_enter Try.func58, Try.ntmps58
 go_wp2
 all_goals go_ret
 all_goals refine ⟨ret_bool ?_,below_alloc0 _ _⟩
 all_goals (try rw [int_beq_zero])
 all_goals simp_all [zeroB]
theorem sameTerm_zero (t : Tm) (A : Option Addr) (c : Nat) (w : World) (hl : t.kids.length ≤ 1099511627776) :
  Calls Try.prog 118 #[.agg #[.int .i64 t.kind,.int .i64 t.num,.string t.name,.slice A t.kids.length c],.agg #[.int .i64 0,.int .i64 0,.string ⟨#[]⟩,.slice none 0 0]] w fun e w'=>e = .returned (.bool (zeroB t)) ∧ Below w.heap.size w w':=by
 by_cases hz : t.kind = 0 ∧ t.num = 0 ∧ t.name.toList = [] ∧ t.kids.length = 0
 ·
  obtain ⟨h1,h2,h3,h4⟩:=hz;have HZ:=Lib.hid (show zeroB t = true from by simp only [zeroB,h1,h2,h3,h4,List.isEmpty_nil,decide_true,Bool.and_self]);rw [h1,h2,h4];clear h1 h2 h4
  go_enter Try.func118, Try.ntmps118
  go_wp2_with fail
  go_loopw [5] (fun i wr=>i = .int .i64 0 ∧ wr = (w.alloc (.cells #[.int .i64 0,.int .i64 0,.string t.name,.slice A 0 c] 75)).alloc (.cells #[.int .i64 0,.int .i64 0,.string ⟨#[]⟩,.slice none 0 0] 75)) (fun _ _=>0)
  case atStart=>exact ⟨rfl,rfl⟩
  case round =>
   obtain ⟨rfl,rfl⟩:=hrel;go_wp2_with fail
   go_ret
   exact ⟨ret_bool HZ.out.symm,below_alloc (below_alloc0 _ _) (Nat.le_refl _) _⟩
 ·
  have HZ:=Lib.hid (show zeroB t = false from by
   cases h : zeroB t
   · rfl
   · simp only [zeroB,Bool.and_eq_true,decide_eq_true_eq,List.isEmpty_iff] at h;exact absurd ⟨h.1.1.1,h.1.1.2,h.1.2,h.2⟩ hz)
  have hcase : (t.kind != 0) = true ∨ (t.kind = 0 ∧ (t.num != 0) = true) ∨ (t.kind = 0 ∧ t.num = 0 ∧ ¬ t.name.toList = []) ∨ (t.kind = 0 ∧ t.num = 0 ∧ t.name.toList = [] ∧ (((t.kids.length : Nat) : Int) != 0) = true):=by
   simp only [bne_iff_ne];by_cases h1 : t.kind = 0
   ·
    by_cases h2 : t.num = 0
    ·
     by_cases h3 : t.name.toList = []
     · exact .inr (.inr (.inr ⟨h1,h2,h3,fun h4=>hz ⟨h1,h2,h3,by omega⟩⟩))
     · exact .inr (.inr (.inl ⟨h1,h2,h3⟩))
    · exact .inr (.inl ⟨h1,h2⟩)
   · exact .inl h1
  clear hz;rcases hcase with h | ⟨h1,h⟩ | ⟨h1,h2,h⟩ | ⟨h1,h2,h3,h⟩
  all_goals
   first | (rw [h1,h2];clear h1 h2) | (rw [h1];clear h1) | skip
   go_enter Try.func118, Try.ntmps118
   go_wp2_with fail
   go_ret
   exact ⟨ret_bool HZ.out.symm,below_alloc (below_alloc0 _ _) (Nat.le_refl _) _⟩
end Go.Proofs.Ytkgoajnnkimkaaa
