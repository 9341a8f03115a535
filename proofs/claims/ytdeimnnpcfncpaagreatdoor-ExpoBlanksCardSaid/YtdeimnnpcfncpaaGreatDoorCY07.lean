/- Parts of the proof: F5. -/
import Derived.Test.YtdeimnnpcfncpaaGreatDoorCY06
set_option linter.unusedVariables false
set_option linter.unusedSimpArgs false
set_option maxRecDepth 100000
set_option maxHeartbeats 64000000
namespace Go.Proofs.YtdeimnnpcfncpaaGreatDoor
structure qqC (hi lo num den:Nat):Prop where
 h1:9223372036854775808≤hi
 h2:hi<18446744073709551616
 h3:lo<18446744073709551616
 n1:num≤den*(hi*18446744073709551616 - lo)
 n2:den*(hi*18446744073709551616 - lo)<num+den
 b1:den*170141183460469231731687303715884105728≤num
 b2:num*1048576≤den*340282366920938463463374607431768211456*1048575
 ex: ∀x:Nat,x<18446744073709551616→9223372036854775808≤x→ ∀y:Nat,x*num≤y*(den*87112285931760246646623899502532662132736)+den*18446744073709551616→y*(den*87112285931760246646623899502532662132736)<x*num+den*36893488147419103232→x*num=y*(den*87112285931760246646623899502532662132736)
def qqt (q2:Nat):Nat:=if q2=0 then 1 else (9223372036854775807/q2)+1
def lat (num T den q1 r1 q2 r2:Nat):Bool:=
 decide (18446744073709551616≤q1+q2)&&decide (q1*r2=q2*r1+1)&&decide (r1*T+den*18446744073709551616<q1*num)&&decide (q2*num<r2*T)&&
 decide (den*36893488147419103232+r1*T+q2*num≤q1*num+r2*T)&&decide (qqt q2*(q2*num)+den*36893488147419103232≤qqt q2*(r2*T))
def chk (i:Nat) (r:Nat×Nat×Nat×Nat×Nat×Nat):Bool:=
 match r with
 |(hi,lo,q1,r1,q2,r2)=>
  let num:=qem i
  let den:=qeQ i
  let pm:=hi*18446744073709551616 - lo
  decide (9223372036854775808≤hi)&&decide (hi<18446744073709551616)&&decide (lo<18446744073709551616)&&decide (num≤den*pm)&&decide (den*pm<num+den)&&
  decide (den*170141183460469231731687303715884105728≤num)&&decide (num*1048576≤den*340282366920938463463374607431768211456*1048575)&&
  (if q1=0 then decide (den*36893488147419103232≤Nat.gcd num (den*87112285931760246646623899502532662132736))
   else lat num (den*87112285931760246646623899502532662132736) den q1 r1 q2 r2)
def qib:Nat→List (Nat×Nat×Nat×Nat×Nat×Nat)→Bool
 |_,[]=>true
 |i,r::l=>chk i r&&qib (i+1) l
theorem qha:qqH.length=696:=by decide+kernel
theorem qsc:qib 0 qqH=true:=by decide+kernel
theorem qrE {x num T den q1 r1 q2 r2:Nat} (h:lat num T den q1 r1 q2 r2=true) (hx:x<18446744073709551616) (hx2:9223372036854775808≤x) (y:Nat) (a:x*num≤y*T+den*18446744073709551616) (b:y*T<x*num+den*36893488147419103232):False:=by
 unfold lat at h;simp only[Bool.and_eq_true,decide_eq_true_eq] at h;obtain⟨⟨⟨⟨⟨g1,g2⟩,g3⟩,g4⟩,g5⟩,g6⟩:=h
 have hb:(qqt q2 - 1)*q2<9223372036854775808:=by
  unfold qqt
  by_cases h0:q2=0
  ·rw[h0,if_pos rfl];decide
  ·rw[if_neg h0,Nat.add_sub_cancel];exact Nat.lt_succ_of_le (Nat.div_mul_le_self 9223372036854775807 q2)
 have hb1:1≤qqt q2:=by
  unfold qqt;split
  ·exact Nat.le_refl _
  ·exact Nat.le_add_left _ _
 generalize qqt q2=bm at*;have cs:((bm - 1:Nat):Int)=(bm:Int) - 1:=by omega
 refine qlJ x num T den q1 r1 q2 r2 bm (by omega) (by omega) (by omega) (by omega) (by omega) ?_ ?_ ?_ ?_ ?_ ?_ y ?_ ?_
 ·have:((q1*r2:Nat):Int)=((q2*r1+1:Nat):Int):=by rw[g2]
  simp only[Int.natCast_mul,Int.natCast_add] at this;omega
 ·have:((r1*T+den*18446744073709551616:Nat):Int)<((q1*num:Nat):Int):=by omega
  simp only[Int.natCast_mul,Int.natCast_add] at this;omega
 ·have:((q2*num:Nat):Int)<((r2*T:Nat):Int):=by omega
  simp only[Int.natCast_mul] at this;omega
 ·have:((den*36893488147419103232+r1*T+q2*num:Nat):Int)≤((q1*num+r2*T:Nat):Int):=by omega
  simp only[Int.natCast_mul,Int.natCast_add] at this;omega
 ·have:(((bm - 1)*q2:Nat):Int)<9223372036854775808:=by omega
  rw[Int.natCast_mul,cs] at this;exact this
 ·have:((bm*(q2*num)+den*36893488147419103232:Nat):Int)≤((bm*(r2*T):Nat):Int):=by omega
  simp only[Int.natCast_mul,Int.natCast_add] at this;rw[Int.mul_sub];omega
 ·have:((x*num:Nat):Int)≤((y*T+den*18446744073709551616:Nat):Int):=by omega
  simp only[Int.natCast_mul,Int.natCast_add] at this;exact this
 ·have:((y*T:Nat):Int)<((x*num+den*36893488147419103232:Nat):Int):=by omega
  simp only[Int.natCast_mul,Int.natCast_add] at this;exact this
theorem qhC {i hi lo:Nat} {r:Nat×Nat×Nat×Nat} (h:chk i (hi,lo,r)=true):qqC hi lo (qem i) (qeQ i):=by
 obtain⟨q1,r1,q2,r2⟩:=r;unfold chk at h;dsimp only at h;generalize qem i=num at*;generalize qeQ i=den at*;simp only[Bool.and_eq_true,decide_eq_true_eq] at h;obtain⟨⟨⟨⟨⟨⟨⟨g1,g2⟩,g3⟩,g4⟩,g5⟩,g6⟩,g7⟩,g8⟩:=h;refine⟨g1,g2,g3,g4,g5,g6,g7,fun x hx hx2 y a b=>?_⟩
 by_cases h0:q1=0
 ·rw[if_pos h0,decide_eq_true_eq] at g8;exact qlI x num den _ _ (Nat.gcd_dvd_left _ _) (Nat.gcd_dvd_right _ _) g8 y a b
 ·rw[if_neg h0] at g8;exact absurd trivial (fun _=>qrE g8 hx hx2 y a b)
theorem qfQ: ∀(l:List (Nat×Nat×Nat×Nat×Nat×Nat)) (i k:Nat),qib i l=true→k<l.length→ ∃hi lo r,l[k]?=some (hi,lo,r)∧qqC hi lo (qem (i+k)) (qeQ (i+k))
 | [],_,_,_,h=>absurd h (Nat.not_lt_zero _)
 |(hi,lo,r)::l,i,k,h,hk=>by
  unfold qib at h;rw[Bool.and_eq_true] at h
  cases k with
  |zero=>exact⟨hi,lo,r,rfl,qhC h.1⟩
  |succ k=>
   obtain⟨a,b,c,e,f⟩:=qfQ l (i+1) k h.2 (by simpa using hk);exact⟨a,b,c,by simpa using e,by rw[show i+(k+1)=i+1+k by omega];exact f⟩
def thi (i:Nat):Nat:=match qqH[i]? with|some (hi,_,_)=>hi|none=>0
def tlo (i:Nat):Nat:=match qqH[i]? with|some (_,lo,_)=>lo|none=>0
theorem qjE (i:Nat) (h:i<696):qqC (thi i) (tlo i) (qem i) (qeQ i):=by
 obtain⟨a,b,c,e,f⟩:=qfQ qqH 0 i qsc (by rw[qha];exact h);unfold thi tlo;rw[e];simpa using f
end Go.Proofs.YtdeimnnpcfncpaaGreatDoor
