/- Contracts of the reference's l01New and DrawPlaces. -/
import Derived.Test.YtkgoajnnkimkaaaH14
set_option linter.unusedSimpArgs false
set_option linter.unusedVariables false
set_option maxRecDepth 100000
set_option maxHeartbeats 16000000
namespace Go.Proofs.Ytkgoajnnkimkaaa
open Go.ChangeShapes Go.WideShapes Go.ChangeAt Go.RowKit
def mixN (b : List UInt8) : Int:=(b.take 4000).foldl (fun h x=>bits .and .i64 (wrap64 (wrap64 (wrap64 (h * 131) + wrap64 ((x.toNat : Nat) : Int)) + 7)) 1073741823) (94701 + (b.length : Int))
def newD (b : List UInt8) : Cr:=⟨b,0,mixN b⟩
theorem mix_take (b : List UInt8) (j : Nat) (hj : j < b.length) (h0 : Int) : (b.take (j + 1)).foldl (fun h x => bits .and .i64 (wrap64 (wrap64 (wrap64 (h * 131) + wrap64 ((x.toNat : Nat) : Int)) + 7)) 1073741823) h0 =
  bits .and .i64 (wrap64 (wrap64 (wrap64 ((b.take j).foldl (fun h x=>bits .and .i64 (wrap64 (wrap64 (wrap64 (h * 131) + wrap64 ((x.toNat : Nat) : Int)) + 7)) 1073741823) h0 * 131) + wrap64 ((b[j].toNat : Nat) : Int)) + 7)) 1073741823:=by
 rw [List.take_succ_eq_append_getElem hj,List.foldl_append];rfl
theorem new_end {w : World} {b : List UInt8} {A : Option Addr} {c : Nat} (h : Rd w w.heap.size A (bytesV b)) (hn : b.length ≤ 1048576) :
  Ending.returned (.pointer (some ⟨w.heap.size,0,none⟩)) = .returned (.pointer (some ⟨w.heap.size,0,none⟩)) ∧ CurAt (w.alloc (.cells #[.slice A b.length c,.int .i64 0,.int .i64 (mixN b)] 71)) w.heap.size (newD b) ∧ Below w.heap.size w (w.alloc (.cells #[.slice A b.length c,.int .i64 0,.int .i64 (mixN b)] 71)) :=
 ⟨rfl,⟨⟨A,c,heap_alloc_new w _,h.below (below_alloc0 _ _)⟩,Nat.zero_le _,hn⟩,below_alloc0 _ _⟩
theorem l01New_any {B : Nat} (b : List UInt8) (A : Option Addr) (c : Nat) (w : World) (h : Rd w B A (bytesV b)) (hn : b.length ≤ 1048576) :
  Calls Try.prog 34 #[.slice A b.length c] w fun e w'=>e = .returned (.pointer (some ⟨w.heap.size,0,none⟩)) ∧ CurAt w' w.heap.size (newD b) ∧ Below w.heap.size w w':=by
 have HR:=Lib.hid h.full;clear h
 go_enter Try.func34, Try.ntmps34
 go_wp2_with fail
 go_loopg [3,4] b.length (fun l hv i wr=>∃ j : Nat,j ≤ b.length ∧ j ≤ 4000 ∧ l = b.length - j ∧ i = .int .i64 j ∧ wr = w ∧ hv = .int .i64 ((b.take j).foldl (fun h x=>bits .and .i64 (wrap64 (wrap64 (wrap64 (h * 131) + wrap64 ((x.toNat : Nat) : Int)) + 7)) 1073741823) (94701 + (b.length : Int))))
 case atStart=>exact ⟨0,by omega,by omega,by omega,rfl,rfl,by simp⟩
 case round =>
  obtain ⟨j,hj,hj4,rfl,rfl,rfl,rfl⟩:=hrel;by_cases hlt : j < b.length
  ·
   have y1 : (j : Int) < (b.length : Int):=by omega
   have y2 : (0 : Int) ≤ (j : Int):=by omega
   by_cases h4 : j < 4000
   ·
    have y3 : (j : Int) < 4000:=by omega
    obtain ⟨ad,rfl,hb,hc⟩:=HR.out j (.int .u8 ((b[j].toNat : Nat) : Int)) (by simp [bytesV,hlt]);have HM:=Lib.hid (mix_take b j hlt (94701 + (b.length : Int)));generalize (b.take j).foldl _ _ = hv at HM ⊢;go_wp2_with fail
    go_roundg (b.length - (j + 1))
    case measure=>omega
    case rel=>exact ⟨j + 1,by omega,by omega,by omega,by go_num,rfl,by rw [HM.out]⟩
   ·
    have y3 : ¬ (j : Int) < 4000:=by omega
    have HM:=Lib.hid (show (b.take j).foldl (fun h x=>bits .and .i64 (wrap64 (wrap64 (wrap64 (h * 131) + wrap64 ((x.toNat : Nat) : Int)) + 7)) 1073741823) (94701 + (b.length : Int)) = mixN b from by
     obtain rfl : j = 4000:=by omega
     rfl)
    rw [HM.out];go_wp2_with fail
    go_ret
    exact new_end HR.out hn
  ·
   have y1 : ¬ (j : Int) < (b.length : Int):=by omega
   have HM:=Lib.hid (show (b.take j).foldl (fun h x=>bits .and .i64 (wrap64 (wrap64 (wrap64 (h * 131) + wrap64 ((x.toNat : Nat) : Int)) + 7)) 1073741823) (94701 + (b.length : Int)) = mixN b from by
    unfold mixN;rw [List.take_of_length_le (by omega),List.take_of_length_le (by omega)])
   rw [HM.out];go_wp2_with fail
   go_ret
   exact new_end HR.out hn
theorem l01Below_10k (g : Nat) (s : Cr) (w : World) (hc : CurAt w g s) : Calls Try.prog 36 #[.pointer (some ⟨g,0,none⟩),.int .i64 10000] w fun e w'=>e = .returned (.int .i64 (((bigD 10000 s).1 : Nat) : Int)) ∧ Went w g (bigD 10000 s).2 w' :=
 l01Below_big 10000 g s w hc (by omega) (by omega)
def placesD : Nat → Cr → List Nat × Cr
 | 0,s=>([],s)
 | n + 1,s=>((placesD n s).1 ++ [(bigD 10000 (placesD n s).2).1],(bigD 10000 (placesD n s).2).2)
theorem placesD_len (s : Cr) : ∀ n,(placesD n s).1.length = n
 | 0=>rfl
 | n + 1=>by simp [placesD,placesD_len s n]
def placesF (b : List UInt8) : List Nat:=(placesD 12 (byteD (newD b)).2).1
theorem placesF_len (b : List UInt8) : (placesF b).length = 12:=placesD_len _ 12
theorem drawPlaces_any {B : Nat} (b : List UInt8) (A : Option Addr) (c : Nat) (w : World) (h : Rd w B A (bytesV b)) (hn : b.length ≤ 1048576) :
  Calls Try.prog 15 #[.slice A b.length c] w (NewRow w 3 1 12 ((placesF b).map fun (n : Nat)=>iv (n : Int))):=by
 have HN:=Lib.hid (l01New_any b A c w h hn);have HB:=Lib.hid (fun s V g (hc : CurAt V g s)=>l01Byte_any g s V hc);have HK:=Lib.hid (fun s V g (hc : CurAt V g s)=>l01Below_10k g s V hc);have HF:=Lib.hid (show placesF b = (placesD 12 (byteD (newD b)).2).1 from rfl);clear h
 go_enter Try.func15, Try.ntmps15
 go_wp2_with fail
 refine HN.out.mono ?_;rintro e w1 ⟨rfl,hc1,hb1⟩;go_wp2_with fail
 refine (HB.out _ w1 _ hc1).mono ?_;rintro e w2 ⟨rfl,hw2⟩;generalize (byteD (newD b)).2 = s2 at hw2 HF;have hlt2:=hw2.1.lt;have hlit:=World.ownsRow_lit (base:=w.heap.size + 1) (e := 3) (size:=1) w2 #[] 0 (by omega) (by simp) rfl;have hcl : CurAt (w2.alloc (.cells #[] 3)) w.heap.size s2:=hw2.1.below (below_alloc0 _ _);have hbl : Below w.heap.size w (w2.alloc (.cells #[] 3)):=by
  have:=(hw2.2.trans (Fr.of_below (below_alloc0 w2 (.cells #[] 3)))).below (B:=w.heap.size) hb1.size (fun b hb e=>by omega);exact hb1.trans this
 have hsl : w.heap.size + 1 ≤ (w2.alloc (.cells #[] 3)).heap.size:=by simp;omega
 clear hc1 hw2;go_wp2_with fail
 generalize w2.alloc (.cells #[] 3) = W at hlit hcl hbl hsl ⊢;have HLT:=Lib.hid hlit;have HCL:=Lib.hid hcl;clear hlit hcl hlt2 hb1;go_loopg [4,5] 12 (fun l out i wr=>∃ (j : Nat) (A : Option Addr) (c : Nat),j ≤ 12 ∧ l = 12 - j ∧ i = .int .i64 j ∧ out = .slice A j c ∧ wr.ownsRow (w.heap.size + 1) 3 1 (.slice A j c) j ((placesD j s2).1.map fun (n : Nat)=>iv (n : Int)) ∧ CurAt wr w.heap.size (placesD j s2).2 ∧ Below w.heap.size w wr)
 case atStart=>exact ⟨0,_,0,by omega,by omega,rfl,rfl,by simpa [placesD] using HLT.out,HCL.out,hbl⟩
 case round =>
  clear HLT HCL hbl hsl;obtain ⟨j,A1,c1,hj,rfl,rfl,rfl,ho,hc,hb⟩:=hrel;by_cases hlt : j < 12
  ·
   have y1 : (j : Int) < 12:=by omega
   have HPD:=Lib.hid (show placesD (j + 1) s2 = ((placesD j s2).1 ++ [(bigD 10000 (placesD j s2).2).1],(bigD 10000 (placesD j s2).2).2) from rfl);have HC:=Lib.hid hc;generalize placesD j s2 = pd at ho HC HPD;generalize hbg : bigD 10000 pd.2 = bg at HPD;have HBG:=Lib.hid hbg;clear hbg hc;have hk:=HK.out pd.2 wr _ HC.out;rw [HBG.out] at hk;have HK1:=Lib.hid hk;have hlt1:=HC.out.lt;clear hk;go_wp2_with fail
   refine HK1.out.mono ?_;rintro e w3 ⟨rfl,hw3⟩;have ho3:=hw3.2.own ho (fun b hb e=>by have:=(ho.lt b hb).1;omega);have hs3:=hw3.2.size;have hb3 : Below w.heap.size w w3:=hb.trans (hw3.2.below (B:=w.heap.size) hb.size (fun b hb e=>by omega));go_wp2_with (at_builtin;refine append_cells Try.underlying35 info_int rfl (by omega) (by omega) rfl _ _ rfl [.int .i64 ((bg.1 : Nat) : Int)] ho3 rfl rfl rfl (by simp [Value.oneCell']) (by omega) (by omega) ?_;intro A4 c4 w4 ho4 hg4 hv4)
   have hOB:=fun b e=>(ho3.lt b e).1;have hc4 : CurAt w4 w.heap.size bg.2:=hw3.1.fr ((Fr.refl (fun q=>w.heap.size + 1 ≤ q) _).grown hg4 (fun q e _=>hOB q e)) (fun q q1 q2=>by omega);have hb4 : Below w.heap.size w w4:=hb3.grown hg4 (by omega) (fun q e=>by have:=hOB q e;omega);go_roundg (12 - (j + 1))
   case measure=>omega
   case rel=>exact ⟨j + 1,A4,c4,by omega,by omega,by go_num,rfl,by rw [HPD.out,List.map_append];exact ho4,by rw [HPD.out];exact hc4,hb4⟩
  ·
   obtain rfl : j = 12:=by omega
   have HO:=Lib.hid ho;clear ho;go_wp2_with fail
   go_ret
   exact ⟨A1,c1,rfl,by rw [HF.out];exact own_mono HO.out (by omega),hb⟩
end Go.Proofs.Ytkgoajnnkimkaaa
