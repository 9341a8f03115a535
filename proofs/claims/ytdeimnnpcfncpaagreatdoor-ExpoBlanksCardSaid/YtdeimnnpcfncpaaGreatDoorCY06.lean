/- Parts of the proof: F4. -/
import GoSem.PinnedTables
import Derived.Test.YtdeimnnpcfncpaaGreatDoorCY00
set_option linter.unusedVariables false
set_option linter.unusedSimpArgs false
set_option maxRecDepth 100000
set_option maxHeartbeats 64000000
namespace Go.Proofs.YtdeimnnpcfncpaaGreatDoor
def pP (i:Nat):Nat:=if 348≤i then 10^(i - 348) else 1
def pQ (i:Nat):Nat:=if 348≤i then 1 else 10^(348 - i)
def lp2 (p:Int):Int:=p*108853/32768
def qem (i:Nat):Nat:=pP i*2^(127 - lp2 ((i:Int) - 348)).toNat
def qeQ (i:Nat):Nat:=pQ i*2^(lp2 ((i:Int) - 348) - 127).toNat
def qs7:Nat→Nat→Nat→Nat→Nat→Nat→Nat→Nat×Nat×Nat×Nat
 |0,q1,r1,_,q2,r2,_=>(q1,r1,q2,r2)
 |f+1,q1,r1,a,q2,r2,b=>
  if 18446744073709551616≤q1+q2 then (q1,r1,q2,r2)
  else if b<a then
   let k:=min ((a - 1)/b) (if q2=0 then (a - 1)/b else (18446744073709551615 - q1)/q2)
   qs7 f (q1+k*q2) (r1+k*r2) (a - k*b) q2 r2 b
  else
   let k:=min ((b - 1)/a) ((18446744073709551615 - q2)/q1)
   qs7 f q1 r1 a (q2+k*q1) (r2+k*r1) (b - k*a)
def qtS (i:Nat) (x:Nat×Nat):Nat×Nat×Nat×Nat×Nat×Nat:=
 if qeQ i*36893488147419103232≤Nat.gcd (qem i) (qeQ i*87112285931760246646623899502532662132736) then (x.1,x.2,0,0,0,0)
 else (x.1,x.2,qs7 200 1 0 (qem i) 0 1 (qeQ i*87112285931760246646623899502532662132736))
def qqS:Nat→List (Nat×Nat)→List (Nat×Nat×Nat×Nat×Nat×Nat)
 |_,[]=>[]
 |i,x::l=>qtS i x::qqS (i+1) l
def qqH:List (Nat×Nat×Nat×Nat×Nat×Nat):=qqS 0 Pinned.pow10Rows
end Go.Proofs.YtdeimnnpcfncpaaGreatDoor
