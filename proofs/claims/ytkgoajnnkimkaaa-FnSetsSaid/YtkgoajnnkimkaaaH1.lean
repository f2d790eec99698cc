/- What the reference draws, as data: a cursor, numbers, terms, statements, programs, and the code of them. No program is named. -/
import Derived.Test.YtkgoajnnkimkaaaA3
set_option linter.unusedSimpArgs false
set_option linter.unusedVariables false
set_option maxRecDepth 100000
set_option maxHeartbeats 16000000
namespace Go.Proofs.Ytkgoajnnkimkaaa
open Go.RowKit
inductive St where
 | set (x : ByteArray) (t : Tm)
 | word (k : Int) (x : ByteArray)
 | skip
 | loop (t : Tm) (b : List St)
 | cond (t : Tm) (b e : List St)
def zeroT : Tm:=.mk 0 0 ⟨#[]⟩ []
structure Cr where
 b : List UInt8
 i : Nat
 h : Int
def nextH (h : Int) : Int:=wrap64 (wrap64 (h * 6364136223846793005) + 1442695040888963407)
def mixH (h : Int) : Int:=bits .and .i64 (bits .xor .i64 (h / 8589934592) (h / 35184372088832)) 255
def byteD (s : Cr) : Nat × Cr :=
 if hi : s.i < s.b.length then ((bits .and .i64 (wrap64 (mixH (nextH s.h) + wrap64 ((s.b[s.i].toNat : Nat) : Int))) 255).toNat,⟨s.b,s.i + 1,nextH s.h⟩)
 else ((mixH (nextH s.h)).toNat,⟨s.b,s.i,nextH s.h⟩)
def belowD (n : Nat) (s : Cr) : Nat × Cr:=((byteD s).1 % n,(byteD s).2)
def bigD (n : Nat) (s : Cr) : Nat × Cr :=
 let x:=byteD s
 let y:=byteD x.2
 let z:=byteD y.2
 let u:=byteD z.2
 ((x.1 * 16777216 + y.1 * 65536 + z.1 * 256 + u.1) % n,u.2)
def pickD (xs : List ByteArray) (s : Cr) : ByteArray × Cr:=((xs[(belowD xs.length s).1]?).getD ⟨#[]⟩,(belowD xs.length s).2)
def pickI (xs : List Int) (s : Cr) : Int × Cr:=((xs[(belowD xs.length s).1]?).getD 0,(belowD xs.length s).2)
def numL : List Int:=[0,1,2,3,7,999,1000,1000000000]
def kindL : List Int:=[3,4,5,6,7,9]
def readL : List ByteArray:=[⟨#[120]⟩,⟨#[121]⟩,⟨#[122]⟩,⟨#[120]⟩,⟨#[117]⟩]
def setL3 : List ByteArray:=[⟨#[120]⟩,⟨#[121]⟩,⟨#[122]⟩]
def lockL : List ByteArray:=[⟨#[97]⟩,⟨#[98]⟩,⟨#[109]⟩]
def callL3 : List ByteArray:=[⟨#[112]⟩,⟨#[113]⟩,⟨#[114]⟩]
def globL : List ByteArray:=[⟨#[120]⟩,⟨#[121]⟩,⟨#[122]⟩,⟨#[117]⟩]
def procL4 : List ByteArray:=[⟨#[109,97,105,110]⟩,⟨#[112]⟩,⟨#[113]⟩,⟨#[114]⟩]
def leafD (k : Nat) (s : Cr) : Tm × Cr :=
 if k < 3 then (.mk 1 (pickI numL s).1 ⟨#[]⟩ [],(pickI numL s).2) else (.mk 2 0 (pickD readL s).1 [],(pickD readL s).2)
def termD : Nat → Cr → Tm × Cr
 | 0,s=>leafD ((belowD 12 s).1 % 6) (belowD 12 s).2
 | d + 1,s =>
  if (belowD 12 s).1 < 6 then leafD (belowD 12 s).1 (belowD 12 s).2
  else if (belowD 12 s).1 = 6 then (.mk 8 0 ⟨#[]⟩ [(termD d (belowD 12 s).2).1],(termD d (belowD 12 s).2).2)
  else (.mk (pickI kindL (belowD 12 s).2).1 0 ⟨#[]⟩ [(termD d (pickI kindL (belowD 12 s).2).2).1,(termD d (termD d (pickI kindL (belowD 12 s).2).2).2).1],
   (termD d (termD d (pickI kindL (belowD 12 s).2).2).2).2)
def loopD (f : Cr → St × Cr) : Nat → Nat → Cr → List St × Cr
 | 0,_,s=>([],s)
 | m + 1,i,s =>
  if i < (belowD 4 s).1 then ((f (belowD 4 s).2).1 :: (loopD f m (i + 1) (f (belowD 4 s).2).2).1,(loopD f m (i + 1) (f (belowD 4 s).2).2).2)
  else ([],(belowD 4 s).2)
def simpleD (k : Nat) (s : Cr) : St × Cr :=
 if k < 4 then (.set (pickD setL3 s).1 (termD 2 (pickD setL3 s).2).1,(termD 2 (pickD setL3 s).2).2)
 else if k < 6 then (.word 6 (pickD lockL s).1,(pickD lockL s).2)
 else if k < 8 then (.word 7 (pickD lockL s).1,(pickD lockL s).2)
 else if k = 8 then (.word 4 (pickD callL3 s).1,(pickD callL3 s).2)
 else if k = 9 then (.word 5 (pickD callL3 s).1,(pickD callL3 s).2)
 else (.skip,s)
def stmtD : Nat → Cr → St × Cr
 | 0=>fun s=>simpleD (if 11 ≤ (belowD 14 s).1 then (belowD 14 s).1 - 6 else (belowD 14 s).1) (belowD 14 s).2
 | d + 1=>fun s =>
  let k:=(belowD 14 s).1
  let s1:=(belowD 14 s).2
  if k < 11 then simpleD k s1
  else
   let t:=termD 1 s1
   let b:=loopD (stmtD d) 4 0 t.2
   if k = 11 then (.loop t.1 b.1,b.2)
   else
    let o:=belowD 2 b.2
    if o.1 = 0 then
     let e:=loopD (stmtD d) 4 0 o.2
     (.cond t.1 b.1 e.1,e.2)
    else (.cond t.1 b.1 [],o.2)
def listD (d : Nat) (s : Cr) : List St × Cr:=loopD (stmtD d) 4 0 s
mutual
def St.cnt : St → Nat
 | .set _ _=>1
 | .word _ _=>1
 | .skip=>1
 | .loop _ b=>1 + St.cntL b
 | .cond _ b e=>1 + St.cntL b + St.cntL e
def St.cntL : List St → Nat
 | []=>0
 | x :: r=>St.cnt x + St.cntL r
end
mutual
def fixS (ps : List ByteArray) : St → Cr → St × Cr
 | .set x t,s=>(.set x t,s)
 | .word k x,s=>if k = 4 ∨ k = 5 then (.word k (pickD ps s).1,(pickD ps s).2) else (.word k x,s)
 | .skip,s=>(.skip,s)
 | .loop t b,s=>(.loop t (fixL ps b s).1,(fixL ps b s).2)
 | .cond t b e,s=>(.cond t (fixL ps b s).1 (fixL ps e (fixL ps b s).2).1,(fixL ps e (fixL ps b s).2).2)
def fixL (ps : List ByteArray) : List St → Cr → List St × Cr
 | [],s=>([],s)
 | x :: r,s=>((fixS ps x s).1 :: (fixL ps r (fixS ps x s).2).1,(fixL ps r (fixS ps x s).2).2)
end
def guardD (body : List St) (s : Cr) : List St × Cr :=
 let a:=pickD lockL s
 let b:=pickD lockL a.2
 if a.1 = b.1 then (.word 6 a.1 :: body ++ [.word 7 a.1],b.2)
 else
  let o:=belowD 2 b.2
  if o.1 = 0 then (.word 6 a.1 :: .word 6 b.1 :: body ++ [.word 7 a.1],o.2) else (.word 6 a.1 :: body ++ [.word 7 a.1],o.2)
def cutD (body : List St) : List St:=if 50 < St.cntL body then [.skip] else body
def onceGuardD (body : List St) (s : Cr) : List St × Cr:=if (belowD 2 s).1 = 0 then guardD body (belowD 2 s).2 else (body,(belowD 2 s).2)
def headD (ps : List ByteArray) (i : Nat) (body : List St) (s : Cr) : List St × Cr :=
 if i = 0 then (if (belowD 2 s).1 = 0 then (.word 5 ((ps[1]?).getD ⟨#[]⟩) :: body,(belowD 2 s).2) else (body,(belowD 2 s).2)) else (body,s)
def procD (ps : List ByteArray) (i : Nat) (s : Cr) : List St × Cr :=
 let a:=listD 2 s
 let b:=listD 1 a.2
 let g:=onceGuardD (cutD (a.1 ++ b.1)) b.2
 let h:=headD ps i g.1 g.2
 fixL (ps.drop 1) h.1 h.2
def procsD (ps : List ByteArray) : Nat → Cr → List (List St) × Cr
 | 0,s=>([],s)
 | i + 1,s=>((procsD ps i s).1 ++ [(procD ps i (procsD ps i s).2).1],(procD ps i (procsD ps i s).2).2)
def namesD (s : Cr) : List ByteArray:=procL4.take (2 + (belowD 3 s).1)
def bodiesD (s : Cr) : List (List St):=(procsD (namesD s) (namesD s).length (belowD 3 s).2).1
mutual
def emitS (ps : List ByteArray) : Nat → St → List Is
 | _,.set x t=>[⟨1,placeOf globL x,t,0⟩]
 | _,.word k x=>[⟨k,if k = 4 ∨ k = 5 then placeOf ps x else placeOf lockL x,zeroT,0⟩]
 | _,.skip=>[⟨8,0,zeroT,0⟩]
 | a,.loop t b=>⟨2,0,t,((a + 1 + (emitL ps (a + 1) b).length + 1 : Nat) : Int)⟩ :: emitL ps (a + 1) b ++ [⟨3,0,zeroT,(a : Nat)⟩]
 | a,.cond t b e =>
  if e.length = 0 then ⟨2,0,t,((a + 1 + (emitL ps (a + 1) b).length : Nat) : Int)⟩ :: emitL ps (a + 1) b
  else ⟨2,0,t,((a + 1 + (emitL ps (a + 1) b).length + 1 : Nat) : Int)⟩ :: emitL ps (a + 1) b ++
   ⟨3,0,zeroT,((a + 1 + (emitL ps (a + 1) b).length + 1 + (emitL ps (a + 1 + (emitL ps (a + 1) b).length + 1) e).length : Nat) : Int)⟩ ::
    emitL ps (a + 1 + (emitL ps (a + 1) b).length + 1) e
def emitL (ps : List ByteArray) : Nat → List St → List Is
 | _,[]=>[]
 | a,x :: r=>emitS ps a x ++ emitL ps (a + (emitS ps a x).length) r
end
def endI : Is:=⟨9,0,zeroT,0⟩
def insD (ps : List ByteArray) (bs : List (List St)) : List Is:=bs.foldl (fun ins b=>ins ++ emitL ps ins.length b ++ [endI]) []
def entD (ps : List ByteArray) (bs : List (List St)) : List Nat:=(List.range bs.length).map fun i=>(insD ps (bs.take i)).length
def codeD (s : Cr) : Cd:=⟨globL,lockL,namesD s,(entD (namesD s) (bodiesD s)).map fun (n : Nat)=>(n : Int),insD (namesD s) (bodiesD s)⟩
end Go.Proofs.Ytkgoajnnkimkaaa
