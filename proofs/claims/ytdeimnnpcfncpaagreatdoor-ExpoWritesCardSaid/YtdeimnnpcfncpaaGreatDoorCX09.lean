/- Parts of the proof: F5. -/
import Derived.Test.YtdeimnnpcfncpaaGreatDoorCX08
set_option linter.unusedVariables false
set_option linter.unusedSimpArgs false
set_option maxRecDepth 100000
set_option maxHeartbeats 64000000
namespace Go.Proofs.YtdeimnnpcfncpaaGreatDoor
structure qp2 (hi lo num den:Nat):Prop where
 h1:9223372036854775808≤hi
 h2:hi<18446744073709551616
 h3:lo<18446744073709551616
 n1:num≤den*(hi*18446744073709551616 - lo)
 n2:den*(hi*18446744073709551616 - lo)<num+den
 b1:den*170141183460469231731687303715884105728≤num
 b2:num*1048576≤den*340282366920938463463374607431768211456*1048575
 ex: ∀x:Nat,x<18446744073709551616→9223372036854775808≤x→ ∀y:Nat,x*num≤y*(den*87112285931760246646623899502532662132736)+den*18446744073709551616→y*(den*87112285931760246646623899502532662132736)<x*num+den*36893488147419103232→x*num=y*(den*87112285931760246646623899502532662132736)
def qqO (q2:Nat):Nat:=if q2=0 then 1 else (9223372036854775807/q2)+1
def lat (num T den q1 r1 q2 r2:Nat):Bool:=
 decide (18446744073709551616≤q1+q2)&&decide (q1*r2=q2*r1+1)&&decide (r1*T+den*18446744073709551616<q1*num)&&decide (q2*num<r2*T)&&
 decide (den*36893488147419103232+r1*T+q2*num≤q1*num+r2*T)&&decide (qqO q2*(q2*num)+den*36893488147419103232≤qqO q2*(r2*T))
def chk (i:Nat) (r:Nat×Nat×Nat×Nat×Nat×Nat):Bool:=
 match r with
 |(hi,lo,q1,r1,q2,r2)=>
  let num:=qeI i
  let den:=qfS i
  let pm:=hi*18446744073709551616 - lo
  decide (9223372036854775808≤hi)&&decide (hi<18446744073709551616)&&decide (lo<18446744073709551616)&&decide (num≤den*pm)&&decide (den*pm<num+den)&&
  decide (den*170141183460469231731687303715884105728≤num)&&decide (num*1048576≤den*340282366920938463463374607431768211456*1048575)&&
  (if q1=0 then decide (den*36893488147419103232≤Nat.gcd num (den*87112285931760246646623899502532662132736))
   else lat num (den*87112285931760246646623899502532662132736) den q1 r1 q2 r2)
def qiu:Nat→List (Nat×Nat×Nat×Nat×Nat×Nat)→Bool
 |_,[]=>true
 |i,r::l=>chk i r&&qiu (i+1) l
theorem qhp:qrA.length=696:=by decide+kernel
theorem qsL:qiu 0 qrA=true:=by decide+kernel
theorem qsa {x num T den q1 r1 q2 r2:Nat} (h:lat num T den q1 r1 q2 r2=true) (hx:x<18446744073709551616) (hx2:9223372036854775808≤x) (y:Nat) (a:x*num≤y*T+den*18446744073709551616) (b:y*T<x*num+den*36893488147419103232):False:=by
 unfold lat at h;simp only[Bool.and_eq_true,decide_eq_true_eq] at h;obtain⟨⟨⟨⟨⟨g1,g2⟩,g3⟩,g4⟩,g5⟩,g6⟩:=h
 have hb:(qqO q2 - 1)*q2<9223372036854775808:=by
  unfold qqO
  by_cases h0:q2=0
  ·rw[h0,if_pos rfl];decide
  ·rw[if_neg h0,Nat.add_sub_cancel];exact Nat.lt_succ_of_le (Nat.div_mul_le_self 9223372036854775807 q2)
 have hb1:1≤qqO q2:=by
  unfold qqO;split
  ·exact Nat.le_refl _
  ·exact Nat.le_add_left _ _
 generalize qqO q2=bm at*;have cs:((bm - 1:Nat):Int)=(bm:Int) - 1:=by omega
 refine qnM x num T den q1 r1 q2 r2 bm (by omega) (by omega) (by omega) (by omega) (by omega) ?_ ?_ ?_ ?_ ?_ ?_ y ?_ ?_
 ·have:((q1*r2:Nat):Int)=((q2*r1+1:Nat):Int):=by rw[g2]
  simp only[Int.natCast_mul,Int.natCast_add] at this;omega
 ·have:((r1*T+den*18446744073709551616:Nat):Int)<((q1*num:Nat):Int):=by omega
  simp only[Int.natCast_mul,Int.natCast_add] at this;omega
 ·have:((q2*num:Nat):Int)<((r2*T:Nat):Int):=by omega
  simp only[Int.natCast_mul] at this;omega
 ·have:((den*36893488147419103232+r1*T+q2*num:Nat):Int)≤((q1*num+r2*T:Nat):Int):=by omega
  simp only[Int.natCast_mul,Int.natCast_add] at this;omega
 ·have:(((bm - 1)*q2:Nat):Int)<9223372036854775808:=by omega
  rw[Int.natCast_mul,cs] at this;exact this
 ·have:((bm*(q2*num)+den*36893488147419103232:Nat):Int)≤((bm*(r2*T):Nat):Int):=by omega
  simp only[Int.natCast_mul,Int.natCast_add] at this;rw[Int.mul_sub];omega
 ·have:((x*num:Nat):Int)≤((y*T+den*18446744073709551616:Nat):Int):=by omega
  simp only[Int.natCast_mul,Int.natCast_add] at this;exact this
 ·have:((y*T:Nat):Int)<((x*num+den*36893488147419103232:Nat):Int):=by omega
  simp only[Int.natCast_mul,Int.natCast_add] at this;exact this
theorem qih {i hi lo:Nat} {r:Nat×Nat×Nat×Nat} (h:chk i (hi,lo,r)=true):qp2 hi lo (qeI i) (qfS i):=by
 obtain⟨q1,r1,q2,r2⟩:=r;unfold chk at h;dsimp only at h;generalize qeI i=num at*;generalize qfS i=den at*;simp only[Bool.and_eq_true,decide_eq_true_eq] at h;obtain⟨⟨⟨⟨⟨⟨⟨g1,g2⟩,g3⟩,g4⟩,g5⟩,g6⟩,g7⟩,g8⟩:=h;refine⟨g1,g2,g3,g4,g5,g6,g7,fun x hx hx2 y a b=>?_⟩
 by_cases h0:q1=0
 ·rw[if_pos h0,decide_eq_true_eq] at g8;exact qnS x num den _ _ (Nat.gcd_dvd_left _ _) (Nat.gcd_dvd_right _ _) g8 y a b
 ·rw[if_neg h0] at g8;exact absurd trivial (fun _=>qsa g8 hx hx2 y a b)
theorem qgs: ∀(l:List (Nat×Nat×Nat×Nat×Nat×Nat)) (i k:Nat),qiu i l=true→k<l.length→ ∃hi lo r,l[k]?=some (hi,lo,r)∧qp2 hi lo (qeI (i+k)) (qfS (i+k))
 | [],_,_,_,h=>absurd h (Nat.not_lt_zero _)
 |(hi,lo,r)::l,i,k,h,hk=>by
  unfold qiu at h;rw[Bool.and_eq_true] at h
  cases k with
  |zero=>exact⟨hi,lo,r,rfl,qih h.1⟩
  |succ k=>
   obtain⟨a,b,c,e,f⟩:=qgs l (i+1) k h.2 (by simpa using hk);exact⟨a,b,c,by simpa using e,by rw[show i+(k+1)=i+1+k by omega];exact f⟩
def thi (i:Nat):Nat:=match qrA[i]? with|some (hi,_,_)=>hi|none=>0
def tlo (i:Nat):Nat:=match qrA[i]? with|some (_,lo,_)=>lo|none=>0
theorem qlq (i:Nat) (h:i<696):qp2 (thi i) (tlo i) (qeI i) (qfS i):=by
 obtain⟨a,b,c,e,f⟩:=qgs qrA 0 i qsL (by rw[qhp];exact h);unfold thi tlo;rw[e];simpa using f
end Go.Proofs.YtdeimnnpcfncpaaGreatDoor
