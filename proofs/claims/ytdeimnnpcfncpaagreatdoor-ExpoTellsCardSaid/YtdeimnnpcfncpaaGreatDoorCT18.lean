/- Parts of the proof: F21 F25. -/
import Derived.Test.YtdeimnnpcfncpaaGreatDoorCT17
set_option linter.unusedVariables false
set_option linter.unusedSimpArgs false
set_option maxRecDepth 100000
set_option maxHeartbeats 64000000
section
namespace Go.Proofs.YtdeimnnpcfncpaaGreatDoor
open Go
def okB (c:UInt8):Bool:=isD c||c==46||c==101||c==69||c==43||c==45
theorem qlb {c:UInt8} (h:isD c=true):c≠46:=fun e=>by subst e;exact absurd h (by decide)
theorem qbQ (l:List UInt8) (h: ∀c∈l,isD c=true):l.count 46=0:=List.count_eq_zero.2 (fun hm=>qlb (h _ hm) rfl)
theorem qcc {c:UInt8} (h:isD c=true):okB c=true:=by unfold okB;rw[h];rfl
theorem qeC (A R:List UInt8) (hA: ∀c∈A,isD c=true) (hR: ∀c,R.head?=some c→isD c=false):qbg (A++R)=A.length:=by
 unfold qbg;rw[List.takeWhile_append_of_pos hA]
 cases R with
 |nil=>simp
 |cons c t=>rw[List.takeWhile_cons,hR c rfl];simp
theorem qnS (A B R:List UInt8) (hA: ∀c∈A,isD c=true) (hB: ∀c∈B,isD c=true) (hR: ∀c,R.head?=some c→isD c=false):qeY (A++46::(B++R))=(A.length+B.length,R):=by
 have h1:=qeC A (46::(B++R)) hA (fun c hc=>by cases hc;rfl);have h2:=qeC B R hB hR;unfold qeY;dsimp only;rw[h1,List.drop_left];dsimp only;rw[if_pos rfl,h2,List.drop_left]
end Go.Proofs.YtdeimnnpcfncpaaGreatDoor
end
section
namespace Go.Proofs.YtdeimnnpcfncpaaGreatDoor
open Go Ieee
theorem qjo (l:List UInt8) (h:qaN l):qar l<10^l.length:=by
 induction l with
 |nil=>exact Nat.one_pos
 |cons c t ih=>
  have hc:=h c (List.mem_cons_self ..);have:=ih (fun x hx=>h x (List.mem_cons_of_mem _ hx));rw[qaJ,List.length_cons,Nat.pow_succ];have h9:(c.toNat - 48)*10^t.length≤9*10^t.length:=Nat.mul_le_mul_right _ (by omega);omega
theorem qbr {c:UInt8} {t:List UInt8} (h:qaN (c::t)):48≤c.toNat∧c.toNat≤57∧qaN t:=⟨(h c (List.mem_cons_self ..)).1,(h c (List.mem_cons_self ..)).2,fun x hx=>h x (List.mem_cons_of_mem _ hx)⟩
theorem qdg {a b:List UInt8} (h:qaN (a++b)):qaN a∧qaN b:=⟨fun x hx=>h x (List.mem_append_left _ hx),fun x hx=>h x (List.mem_append_right _ hx)⟩
theorem qst {c:UInt8} (h:c.toNat=48):c=48:=UInt8.toNat_inj.1 h
theorem qcs (c:UInt8) (t:List UInt8) (h:qaN (c::t)) (hc:c≠48):10^t.length≤qar (c::t):=by
 obtain⟨h1,h2,h3⟩:=qbr h;rw[qaJ];have h4:c.toNat≠48:=fun e=>hc (qst e)
 have:1*10^t.length≤(c.toNat - 48)*10^t.length:=Nat.mul_le_mul_right _ (by omega);omega
theorem canon (n:Nat): ∀l:List UInt8,l.length=n→qaN l→l≠[]→(l.head?≠some 48∨l.length=1)→l=Lib.decDigits (qar l):=by
 induction n with
 |zero=>intro l h _ h0;exact absurd (List.eq_nil_of_length_eq_zero h) h0
 |succ n ih=>
  intro l hl hd h0 hh;obtain⟨a,x,rfl⟩: ∃a x,l=a++[x]:=⟨l.dropLast,l.getLast h0,(List.dropLast_concat_getLast h0).symm⟩;obtain⟨ha,hx⟩:=qdg hd;have hx1:=hx x (List.mem_singleton.2 rfl);rw[List.length_append,List.length_singleton] at hl
  by_cases hn:a=[]
  ·subst hn;rw[List.nil_append,qbZ,Lib.decDigits,dif_pos (by omega)];rw[show 48+(x.toNat - 48)=x.toNat by omega,UInt8.ofNat_toNat]
  ·have hha:a.head?≠some 48:=by
    rcases hh with hh|hh
    ·intro e;apply hh
     cases a with
     |nil=>exact absurd rfl hn
     |cons c t=>exact e
    ·rw[List.length_append,List.length_singleton] at hh;have:=List.length_pos_iff.2 hn;omega
   have hi:=ih a (by omega) ha hn (.inl hha)
   have hp:1≤qar a:=by
    cases a with
    |nil=>exact absurd rfl hn
    |cons c t=>
     have:=qcs c t ha (fun e=>hha (by rw[e];rfl));have:=Nat.pow_pos (n:=t.length) (show 0<10 by decide);omega
   rw[qa2,qbZ,List.length_singleton,Nat.pow_one,Lib.decDigits,dif_neg (by omega)];rw[show(qar a*10+(x.toNat - 48))/10=qar a by omega,show 48+(qar a*10+(x.toNat - 48))%10=x.toNat by omega,←hi,UInt8.ofNat_toNat]
theorem qjg (l:List UInt8) (h:qaN l):Lib.trimLeftB l 48=if qar l=0 then [] else Lib.decDigits (qar l):=by
 induction l with
 |nil=>rfl
 |cons c t ih=>
  obtain⟨h1,h2,h3⟩:=qbr h
  by_cases hc:c=48
  ·subst hc;have e:qar (48::t)=qar t:=by rw[qaJ];simp
   rw[e,←ih h3];rfl
  ·have hp:=qcs c t h hc;have:=Nat.pow_pos (n:=t.length) (show 0<10 by decide);rw[if_neg (by omega),←canon _ (c::t) rfl h (by simp) (.inl (by simpa using hc))];unfold Lib.trimLeftB;rw[List.dropWhile_cons,if_neg (by simpa using hc)]
theorem qsH (A B C D:Nat):A*D*C*B=D*B*C*A:=by ac_rfl
theorem qoy (s:Bool) (r U:Nat) (hU:2^1074=U) (hr:r<INF): ∃L q,exD (sgw s+r)=(L,q)∧qaN L∧q≤L.length∧(q≤1074∧q≤1075 - ex r)∧qar L*U=V r*10^q:=by
 replace hU:=Lh hU;have hI:INF=9218868437227405312:=rfl
 have hw:(sgw s+r)/4503599627370496%2048=r/4503599627370496∧(sgw s+r)%4503599627370496=r%4503599627370496:=by
  cases s<;>simp only[sgw,Bool.false_eq_true,if_false,if_true]<;>omega
 have hE:exE (sgw s+r)=ex r:=by
  unfold exE ex;rw[hw.1]
  by_cases h:r<4503599627370496
  ·rw[if_pos h,if_pos (by omega)]
  ·rw[if_neg h,if_neg (by omega)]
 have hF:exF (sgw s+r)=fr r:=by
  unfold exF fr;rw[hw.1,hw.2]
  by_cases h:r<4503599627370496
  ·rw[if_pos h,if_pos (by omega),Nat.mod_eq_of_lt h]
  ·rw[if_neg h,if_neg (by omega)]
 have he1:1≤ex r:=by
  unfold ex;split<;>omega
 have hV:V r=fr r*2^(ex r - 1):=rfl;unfold exD;rw[hE,hF,hV];obtain⟨a1,a2⟩:=qkW (ex r - 1075) (Lib.decDigits (fr r)) (qcz _);rw[qce] at a1
 by_cases h0:0<fr r
 ·rw[if_pos h0];obtain⟨L,p,b1,b2,b3,b4,b5⟩:=qll (1075 - ex r) _ 0 a2;rw[Nat.zero_add] at b1;have hp4:p≤1074:=Nat.le_trans b5 (by have:=he1;revert this;generalize ex r=E;intro this;omega);refine⟨L,p,b1,b2,b4▸Nat.le_add_left _ _,⟨hp4,b5⟩,?_⟩;rw[a1] at b3
  have e1:U*2^(ex r - 1075)=2^(1075 - ex r)*2^(ex r - 1):=by
   have q1:=Nat.pow_add 2 1074 (ex r - 1075);rw[hU.out] at q1;rw[←q1,←Nat.pow_add 2 (1075 - ex r) (ex r - 1)];exact congrArg (2^ ·) (by omega)
  have hz:0<2^(ex r - 1075):=Nat.two_pow_pos _;apply Nat.eq_of_mul_eq_mul_right hz;rw[Nat.mul_assoc,e1,←Nat.mul_assoc,b3];generalize 2^(ex r - 1075)=A;generalize 2^(ex r - 1)=B;generalize 10^p=C;generalize fr r=D;exact qsH A B C D
 ·have hf0:fr r=0:=by omega
  rw[if_neg h0];exact⟨_,0,rfl,a2,Nat.zero_le _,⟨Nat.zero_le _,Nat.zero_le _⟩,by rw[a1,hf0,Nat.mul_zero,Nat.zero_mul,Nat.zero_mul,Nat.zero_mul]⟩
end Go.Proofs.YtdeimnnpcfncpaaGreatDoor
end
