/- Parts of the proof: F1 F14 F15 F2 F3 F8 F9 F19. -/
import Derived.Lib.Hide
import Ieee.Arith
set_option linter.unusedVariables false
set_option linter.unusedSimpArgs false
set_option maxRecDepth 100000
set_option maxHeartbeats 64000000
namespace Go.Proofs.YtdeimnnpcfncpaaGreatDoor
theorem Lh {p : Prop} (h : p) : Go.RowKit.Hid p := h
theorem dT {p : Prop} [Decidable p] (h : p) : decide p = true := decide_eq_true h
theorem dF {p : Prop} [Decidable p] (h : ¬ p) : decide p = false := decide_eq_false h
end Go.Proofs.YtdeimnnpcfncpaaGreatDoor
section
namespace Go.Proofs.YtdeimnnpcfncpaaGreatDoor
def ex (v:Nat):Nat:=if v<4503599627370496 then 1 else v/4503599627370496
def fr (v:Nat):Nat:=if v<4503599627370496 then v else 4503599627370496+v%4503599627370496
def V (v:Nat):Nat:=fr v*2^(ex v - 1)
def M (v:Nat):Nat:=(2*fr v+1)*2^(ex v - 1)
def INF:Nat:=9218868437227405312
theorem qnL (v:Nat):1≤ex v:=by
 unfold ex;split
 ·exact Nat.le_refl _
 ·omega
theorem qkL (v:Nat):V (v+1)=V v+2^(ex v - 1):=by
 unfold V fr ex
 by_cases h1:v+1<4503599627370496
 ·rw[if_pos h1,if_pos h1,if_pos (by omega),if_pos (by omega)];show(v+1)*2^0=v*2^0+2^0;omega
 ·rw[if_neg h1,if_neg h1]
  by_cases h2:v<4503599627370496
  ·rw[if_pos h2,if_pos h2];obtain rfl:v=4503599627370495:=by omega
   rfl
  ·rw[if_neg h2,if_neg h2]
   by_cases h3:(v+1)%4503599627370496=0
   ·have e1:(v+1)/4503599627370496=v/4503599627370496+1:=by omega
    have e2:v%4503599627370496=4503599627370495:=by omega
    rw[h3,e1,e2];have e3:v/4503599627370496+1 - 1=(v/4503599627370496 - 1)+1:=by omega
    rw[e3,Nat.pow_succ];generalize 2^(v/4503599627370496 - 1)=x;omega
   ·have e1:(v+1)/4503599627370496=v/4503599627370496:=by omega
    have e2:(v+1)%4503599627370496=v%4503599627370496+1:=by omega
    rw[e1,e2,←Nat.add_assoc,Nat.add_mul _ 1,Nat.one_mul]
theorem ql9 (v:Nat):M v=V v+V (v+1):=by
 rw[qkL];unfold M V;rw[Nat.add_mul,Nat.mul_assoc 2,Nat.one_mul,Nat.two_mul,Nat.add_assoc]
theorem qbI (v:Nat):V v<V (v+1):=by
 rw[qkL];have:0<2^(ex v - 1):=Nat.two_pow_pos _;omega
theorem qkc {a b:Nat} (h:a≤b):V a≤V b:=by
 induction h with
 |refl=>exact Nat.le_refl _
 |step _ ih=>exact Nat.le_trans ih (Nat.le_of_lt (qbI _))
theorem qlv {a b:Nat} (h:a<b):V a<V b:=Nat.lt_of_lt_of_le (qbI a) (qkc h)
theorem qsk {a b:Nat} (h:V a=V b):a=b:=by
 rcases Nat.lt_trichotomy a b with l|l|l
 ·have:=qlv l;omega
 ·exact l
 ·have:=qlv l;omega
theorem qta {a b:Nat} (h:a<b):M a<M b:=by
 rw[ql9,ql9];have:=qlv h;have:V (a+1)<V (b+1):=qlv (Nat.succ_lt_succ h);omega
theorem qn1 {a b:Nat} (h:a≤b):M a≤M b:=by
 rw[ql9,ql9];have:=qkc h;have:V (a+1)≤V (b+1):=qkc (Nat.succ_le_succ h);omega
theorem qsN {a b:Nat} (h:M a=M b):a=b:=by
 rcases Nat.lt_trichotomy a b with l|l|l
 ·have:=qta l;omega
 ·exact l
 ·have:=qta l;omega
def qbm (N d r:Nat):Prop:=
 r≤INF∧(r<INF→N≤M r*d∧(N=M r*d→r%2=0))∧(0<r→M (r - 1)*d≤N∧(N=M (r - 1)*d→r%2=0))
theorem qhm {N1 d1 N2 d2 r1 r2:Nat} (hd1:0<d1) (hd2:0<d2) (h:N1*d2≤N2*d1) (h1:qbm N1 d1 r1) (h2:qbm N2 d2 r2):r1≤r2:=by
 apply Nat.le_of_not_lt;intro hlt;obtain⟨i1,a1,b1⟩:=h1;obtain⟨i2,a2,b2⟩:=h2;obtain⟨p1,q1⟩:=b1 (by omega);obtain⟨p2,q2⟩:=a2 (by omega);have e0:M r2≤M (r1 - 1):=qn1 (by omega);have e1:M (r1 - 1)*d1*d2≤N1*d2:=Nat.mul_le_mul_right _ p1;have e2:N2*d1≤M r2*d2*d1:=Nat.mul_le_mul_right _ p2;have e3:M r2*d2*d1≤M (r1 - 1)*d2*d1:=Nat.mul_le_mul_right _ (Nat.mul_le_mul_right _ e0);have e4:M (r1 - 1)*d1*d2=M (r1 - 1)*d2*d1:=Nat.mul_right_comm _ _ _;have f1:M r2*d2*d1=M (r1 - 1)*d2*d1:=by omega
 have f2:M (r1 - 1)*d1*d2=N1*d2:=by omega
 have f3:N2*d1=M r2*d2*d1:=by omega
 have g1:M r2=M (r1 - 1):=Nat.eq_of_mul_eq_mul_right hd2 (Nat.eq_of_mul_eq_mul_right hd1 f1);have g2:=qsN g1;have g3:=q1 (Nat.eq_of_mul_eq_mul_right hd2 f2.symm);have g4:=q2 (Nat.eq_of_mul_eq_mul_right hd1 f3);omega
theorem qd1 {N d r1 r2:Nat} (hd:0<d) (h1:qbm N d r1) (h2:qbm N d r2):r1=r2:=
 Nat.le_antisymm (qhm hd hd (Nat.le_refl _) h1 h2) (qhm hd hd (Nat.le_refl _) h2 h1)
theorem qfs {N1 d1 N2 d2 N d r:Nat} (hd1:0<d1) (hd2:0<d2) (hd:0<d) (l:N1*d≤N*d1) (u:N*d2≤N2*d) (h1:qbm N1 d1 r) (h2:qbm N2 d2 r):qbm N d r:=by
 obtain⟨i1,a1,b1⟩:=h1;obtain⟨i2,a2,b2⟩:=h2;refine⟨i1,fun hr=>?_,fun hr=>?_⟩
 ·obtain⟨p,q⟩:=a2 hr;have e1:N2*d≤M r*d2*d:=Nat.mul_le_mul_right _ p;have e2:M r*d2*d=M r*d*d2:=Nat.mul_right_comm _ _ _;have e3:N*d2≤M r*d*d2:=by omega
  refine⟨Nat.le_of_mul_le_mul_right e3 hd2,fun e=>q ?_⟩;have:N*d2=M r*d*d2:=by rw[e]
  exact Nat.eq_of_mul_eq_mul_right hd (by omega)
 ·obtain⟨p,q⟩:=b1 hr;have e1:M (r - 1)*d1*d≤N1*d:=Nat.mul_le_mul_right _ p;have e2:M (r - 1)*d1*d=M (r - 1)*d*d1:=Nat.mul_right_comm _ _ _;have e3:M (r - 1)*d*d1≤N*d1:=by omega
  refine⟨Nat.le_of_mul_le_mul_right e3 hd1,fun e=>q ?_⟩;have:N*d1=M (r - 1)*d*d1:=by rw[e]
  exact Nat.eq_of_mul_eq_mul_right hd (by omega)
def isD (c:UInt8):Bool:=decide (48≤c.toNat)&&decide (c.toNat≤57)
structure MS where
 dot:Bool
 seen:Bool
 nd:Nat
 mant:Nat
 dp:Int
 trunc:Bool
def qa0 (s:MS) (c:UInt8):MS:=
 if c=46 then {s with dot:=true,dp:=s.nd}
 else if c=48∧s.nd=0 then {s with seen:=true,dp:=s.dp - 1}
 else if s.nd<19 then {s with seen:=true,nd:=s.nd+1,mant:=s.mant*10+(c.toNat - 48)}
 else {s with seen:=true,nd:=s.nd+1,trunc:=s.trunc||(c !=48)}
def ms0:MS:=⟨false,false,0,0,0,false⟩
def qbW (l:List UInt8):MS:=l.foldl qa0 ms0
theorem qgk (l:List UInt8) (c:UInt8):qbW (l++[c])=qa0 (qbW l) c:=by unfold qbW;rw[List.foldl_append];rfl
end Go.Proofs.YtdeimnnpcfncpaaGreatDoor
end
section
namespace Go.Proofs.YtdeimnnpcfncpaaGreatDoor
open Go Go.RowKit
def bt (s:ByteArray) (i:Nat):UInt8:=s.data.toList.getD i 0
theorem qtd (s:ByteArray) (i:Nat) (h:i<s.size):((s[i]'h).toNat:Int)=((bt s i).toNat:Int):=by
 have:i<s.data.toList.length:=by simpa using h
 unfold bt;rw[List.getD_eq_getElem?_getD,List.getElem?_eq_getElem this];rfl
theorem qdd (s:ByteArray) (i:Nat) (h:i<s.size): ∃c:UInt8,Hid (bt s i=c)∧(((s[i]'h).toNat:Int)=(c.toNat:Int)):=⟨_,Lh rfl,qtd s i h⟩
theorem qbS (c d:UInt8) (n:Int) (hn:(d.toNat:Int)=n) (h:c≠d):((c.toNat:Int)==n)=false:=by
 subst hn;simp only[beq_eq_false_iff_ne,ne_eq];intro e;exact h (UInt8.toNat_inj.1 (by omega))
def mat (s:ByteArray) (a i:Nat):MS:=qbW ((s.data.toList.take i).drop a)
theorem qdB (s:ByteArray) (a i:Nat) (ha:a≤i) (hi:i<s.size):mat s a (i+1)=qa0 (mat s a i) (bt s i):=by
 have hl:i<s.data.toList.length:=by simpa using hi
 unfold mat;rw[List.take_add_one,List.drop_append_of_le_length (by rw[List.length_take];omega),List.getElem?_eq_getElem hl];show qbW (_++[s.data.toList[i]])=_;rw[qgk];unfold bt;rw[List.getD_eq_getElem?_getD,List.getElem?_eq_getElem hl];rfl
theorem qhX (s:ByteArray) (a:Nat):mat s a a=ms0:=by
 unfold mat;rw[List.drop_of_length_le (by rw[List.length_take];omega)];rfl
structure qh6 (s:ByteArray) (a e:Nat):Prop where
 sz:s.size≤2000
 lt:a<e
 le:e≤s.size
 ch: ∀i,a≤i→i<e→isD (bt s i)=true∨(bt s i=46∧(mat s a i).dot=false)
 seen:(mat s a e).seen=true
theorem qje {s:ByteArray} {a e:Nat} (H:qh6 s a e): ∀k,a+k≤e→(mat s a (a+k)).nd≤k∧(mat s a (a+k)).mant<10^min (mat s a (a+k)).nd 19∧ -(k:Int)≤(mat s a (a+k)).dp∧(mat s a (a+k)).dp≤k:=by
 have hle:=H.le;intro k
 induction k with
 |zero=>intro _;rw[Nat.add_zero,qhX];exact⟨Nat.le_refl _,by decide,by decide,by decide⟩
 |succ k ih=>
  intro hk;obtain⟨a1,b,c,d⟩:=ih (by omega);rw[show a+(k+1)=(a+k)+1 by omega,qdB s a (a+k) (by omega) (by omega)];have hp:=H.ch (a+k) (by omega) (by omega);generalize bt s (a+k)=x at*;generalize mat s a (a+k)=st at*;unfold qa0
  by_cases g:x=46
  ·rw[if_pos g];exact⟨by show st.nd≤k+1;omega,b,by show -((k+1:Nat):Int)≤(st.nd:Int);omega,by show(st.nd:Int)≤_;omega⟩
  ·rw[if_neg g];have hd:isD x=true:=by rcases hp with h|h;exact h;exact absurd h.1 g
   unfold isD at hd;simp only[Bool.and_eq_true,decide_eq_true_eq] at hd
   split
   ·exact⟨by show st.nd≤k+1;omega,b,by show -((k+1:Nat):Int)≤st.dp - 1;omega,by show st.dp - 1≤_;omega⟩
   ·split
    ·rename_i g3
     refine⟨by show st.nd+1≤k+1;omega,?_,by show -((k+1:Nat):Int)≤st.dp;omega,by show st.dp≤_;omega⟩;show st.mant*10+(x.toNat - 48)<10^min (st.nd+1) 19;rw[Nat.min_eq_left (by omega)] at b⊢;rw[Nat.pow_succ];omega
    ·refine⟨by show st.nd+1≤k+1;omega,?_,by show -((k+1:Nat):Int)≤st.dp;omega,by show st.dp≤_;omega⟩;show st.mant<10^min (st.nd+1) 19;rw[Nat.min_eq_right (by omega)] at b⊢;exact b
def est (s:ByteArray) (q i:Nat):Nat:=((s.data.toList.take i).drop q).foldl (fun e c=>e*10+(c.toNat - 48)) 0
theorem qeR (s:ByteArray) (a i:Nat) (ha:a≤i) (hi:i<s.size):est s a (i+1)=est s a i*10+((bt s i).toNat - 48):=by
 have hl:i<s.data.toList.length:=by simpa using hi
 unfold est;rw[List.take_add_one,List.drop_append_of_le_length (by rw[List.length_take];omega),List.getElem?_eq_getElem hl];show(_++[s.data.toList[i]]).foldl _ _=_;rw[List.foldl_append];unfold bt;rw[List.getD_eq_getElem?_getD,List.getElem?_eq_getElem hl];rfl
theorem qjb (s:ByteArray) (a:Nat):est s a a=0:=by
 unfold est;rw[List.drop_of_length_le (by rw[List.length_take];omega)];rfl
theorem qaB (c:UInt8):isD c=true↔48≤c.toNat∧c.toNat≤57:=by unfold isD;simp only[Bool.and_eq_true,decide_eq_true_eq]
inductive Tail (s:ByteArray) (e:Nat):Int→Prop
 |none (h:e=s.size):Tail s e 0
 |exp (b:Nat) (ne:Bool) (hc:bt s e=101∨bt s e=69) (hb:(b=0∧ne=false∧bt s (e+1)≠43∧bt s (e+1)≠45)∨(b=1∧((ne=false∧bt s (e+1)=43)∨(ne=true∧bt s (e+1)=45))))
   (hq:e+1+b<s.size) (h5:s.size≤e+1+b+5) (hd: ∀i,e+1+b≤i→i<s.size→isD (bt s i)=true):Tail s e (if ne then -(est s (e+1+b) s.size:Int) else (est s (e+1+b) s.size:Int))
theorem qkQ (s:ByteArray) (q:Nat) (hd: ∀i,q≤i→i<s.size→isD (bt s i)=true): ∀k,q+k≤s.size→est s q (q+k)<10^k:=by
 intro k
 induction k with
 |zero=>intro _;rw[Nat.add_zero,qjb];decide
 |succ k ih=>
  intro hk;have a:=ih (by omega);have:=(qaB _).1 (hd (q+k) (by omega) (by omega));rw[show q+(k+1)=(q+k)+1 by omega,qeR s q (q+k) (by omega) (by omega),Nat.pow_succ];omega
theorem qs8 (c:UInt8) (h:c≠88∧c≠120):(((c.toNat ||| 32:Nat):Int)==120)=false:=by
 have: ∀n:Fin 256,n.val≠88→n.val≠120→n.val ||| 32≠120:=by decide+kernel
 have:=this ⟨c.toNat,c.toNat_lt⟩ (fun e=>h.1 (UInt8.toNat_inj.1 e)) (fun e=>h.2 (UInt8.toNat_inj.1 e));simp only[beq_eq_false_iff_ne,ne_eq];simp at this;omega
end Go.Proofs.YtdeimnnpcfncpaaGreatDoor
end
section
namespace Go.Proofs.YtdeimnnpcfncpaaGreatDoor
def unr (N D:Nat):Nat:=if N%D=0 then N/D else (N/D) ||| 1
def usc (x hi lo s:Nat):Nat:=
 let H:=x*hi/18446744073709551616
 let mid:=x*hi%18446744073709551616
 let mid2:=x*lo/18446744073709551616
 if H%2^s≠0 then (H/2^s) ||| 1
 else if mid<mid2 then ((H - 1)/2^s) ||| 1
 else if 1<mid - mid2 then (H/2^s) ||| 1
 else H/2^s
theorem qg0 {A W k c S:Nat} (hc:c<S) (h1:(k*S+c)*W<A) (h2:A<(k*S+c+1)*W):A/(S*W)=k∧A%(S*W)≠0:=by
 have hW:0<W:=by
  rcases Nat.eq_zero_or_pos W with h|h
  ·subst h;simp at h2
  ·exact h
 have a1:k*S*W≤(k*S+c)*W:=Nat.mul_le_mul_right _ (by omega);have a2:(k*S+c+1)*W≤(k+1)*S*W:=Nat.mul_le_mul_right _ (by rw[Nat.add_mul,Nat.one_mul];omega);have a3:k*S*W=S*W*k:=by rw[Nat.mul_assoc,Nat.mul_comm]
 have a4:(k+1)*S*W=S*W*(k+1):=by rw[Nat.mul_assoc,Nat.mul_comm]
 have hq:A/(S*W)=k:=by
  apply Nat.div_eq_of_lt_le
  ·rw[Nat.mul_comm];omega
  ·rw[Nat.mul_comm];omega
 refine⟨hq,fun e=>?_⟩;have:=Nat.div_add_mod A (S*W);rw[hq,e] at this;omega
theorem qn7 (x hi lo s num den pm W T:Nat) (hW':W=den*340282366920938463463374607431768211456) (hT':T=W*256) (hx:x<18446744073709551616) (hx0:0<x) (hlo:lo<18446744073709551616) (hpm:pm+lo=hi*18446744073709551616)
 (hd:0<den) (hn1:num≤den*pm) (hn2:den*pm<num+den) (hs:8≤s) (hH:0<x*hi/18446744073709551616)
 (hex: ∀y:Nat,x*num≤y*T+den*18446744073709551616→y*T<x*num+den*36893488147419103232→x*num=y*T):
 usc x hi lo s=unr (x*num) (2^s*W):=by
 unfold usc unr;dsimp only;generalize hHd:x*hi/18446744073709551616=H at hH⊢;generalize hmd:x*hi%18446744073709551616=mid;have e1:x*hi=H*18446744073709551616+mid:=by omega
 have e2:x*lo/18446744073709551616*18446744073709551616+x*lo%18446744073709551616=x*lo:=by omega
 have hm2:x*lo/18446744073709551616≤18446744073709551614:=by
  have:x*lo≤18446744073709551615*18446744073709551615:=Nat.mul_le_mul (by omega) (by omega);omega
 have hl2:x*lo%18446744073709551616<18446744073709551616:=Nat.mod_lt _ (by omega);generalize x*lo/18446744073709551616=mid2 at hm2 e2⊢;generalize x*lo%18446744073709551616=lo2 at hl2 e2⊢;have hmid:mid<18446744073709551616:=by omega
 -- the product
 have e3:x*pm+(mid2*18446744073709551616+lo2)=H*340282366920938463463374607431768211456+mid*18446744073709551616:=by
  have:x*(pm+lo)=x*(hi*18446744073709551616):=by rw[hpm]
  rw[Nat.mul_add,←Nat.mul_assoc,e1,←e2] at this;rw[this,Nat.add_mul,Nat.mul_assoc]
 have e4:den*(x*pm)+(den*mid2*18446744073709551616+den*lo2)=H*W+den*mid*18446744073709551616:=by
  have:=congrArg (den* ·) e3;simp only[Nat.mul_add] at this;have c2:den*(H*340282366920938463463374607431768211456)=H*W:=by rw[hW'];exact Nat.mul_left_comm _ _ _
  rw[Nat.mul_assoc den mid2,Nat.mul_assoc den mid,this,c2]
 have a1:x*num≤den*(x*pm):=by
  rw[Nat.mul_left_comm];exact Nat.mul_le_mul_left _ hn1
 have a2:den*(x*pm)<x*num+x*den:=by
  rw[Nat.mul_left_comm,←Nat.mul_add];exact Nat.mul_lt_mul_of_pos_left hn2 hx0
 have a3:x*den≤18446744073709551615*den:=Nat.mul_le_mul_right _ (by omega)
 have a4:den*lo2+den≤den*18446744073709551616:=by
  have:=Nat.mul_le_mul_left den (show lo2+1≤18446744073709551616 by omega);rw[Nat.mul_add,Nat.mul_one] at this;exact this
 generalize hA:x*num=A at a1 a2 hex⊢;have b1:H*W+W=(H+1)*W:=by rw[Nat.add_mul,Nat.one_mul]
 have b2:(H - 1)*W+W=H*W:=by
  have:H - 1+1=H:=by omega
  rw[←Nat.succ_mul,Nat.succ_eq_add_one,this]
 have hdm:den*mid+den≤den*18446744073709551616:=by
  have:=Nat.mul_le_mul_left den (show mid+1≤18446744073709551616 by omega);rw[Nat.mul_add,Nat.mul_one] at this;exact this
 have hdm2:den*mid2+2*den≤den*18446744073709551616:=by
  have:=Nat.mul_le_mul_left den (show mid2+2≤18446744073709551616 by omega);rw[Nat.mul_add,Nat.mul_comm den 2] at this;exact this
 have hHs:=Nat.div_add_mod H (2^s);have hHl:H%2^s<2^s:=Nat.mod_lt _ (Nat.two_pow_pos s);rw[Nat.mul_comm] at hHs;generalize hc:H%2^s=c at hHs hHl⊢;generalize hk:H/2^s=k at hHs⊢;have hS:0<2^s:=Nat.two_pow_pos s
 by_cases g1:c=0
 ·subst g1;have hHk:H=k*2^s:=by omega
  rw[if_neg (by simp)]
  by_cases g2:mid<mid2
  ·rw[if_pos g2]
   have hl:den*mid+den≤den*mid2:=by
    have:=Nat.mul_le_mul_left den (show mid+1≤mid2 by omega);rw[Nat.mul_add,Nat.mul_one] at this;exact this
   have l1:(H - 1)*W<A:=by omega
   have l2:A<H*W:=by omega
   have hk1:1≤k:=by
    apply Nat.pos_of_ne_zero;intro h0;subst h0;omega
   have f1:H - 1=(k - 1)*2^s+(2^s - 1):=by
    have:k*2^s=(k - 1)*2^s+2^s:=by rw[←Nat.succ_mul,Nat.succ_eq_add_one,Nat.sub_add_cancel hk1]
    omega
   obtain⟨r1,r2⟩:=qg0 (S:=2^s) (k:=k - 1) (c:=2^s - 1) (W:=W) (A:=A) (by omega) (by rw[←f1];exact l1) (by rw[←f1,show H - 1+1=H by omega];exact l2)
   have f2:(H - 1)/2^s=k - 1:=by
    rw[f1,Nat.mul_comm,Nat.mul_add_div hS,Nat.div_eq_of_lt (by omega),Nat.add_zero]
   rw[if_neg r2,r1,f2]
  ·rw[if_neg g2]
   by_cases g3:1<mid - mid2
   ·rw[if_pos g3]
    have hl:den*mid2+2*den≤den*mid:=by
     have:=Nat.mul_le_mul_left den (show mid2+2≤mid by omega);rw[Nat.mul_add,Nat.mul_comm den 2] at this;exact this
    have l1:H*W<A:=by omega
    have l2:A<(H+1)*W:=by omega
    obtain⟨r1,r2⟩:=qg0 (S:=2^s) (k:=k) (c:=0) (W:=W) (A:=A) (by omega) (by rw[Nat.add_zero,←hHk];exact l1) (by rw[Nat.add_zero,←hHk];exact l2);rw[if_neg r2,r1]
   ·rw[if_neg g3];have hl:den*mid2≤den*mid:=Nat.mul_le_mul_left den (by omega)
    have hl2:den*mid≤den*mid2+den:=by
     have:=Nat.mul_le_mul_left den (show mid≤mid2+1 by omega);rw[Nat.mul_add,Nat.mul_one] at this;exact this
    -- the whole of 2^s is a multiple of 2^8
    have hs8:2^s=2^(s - 8)*256:=by
     rw[show(256:Nat)=2^8 from rfl,←Nat.pow_add];congr 1;omega
    have hT:k*2^(s - 8)*T=H*W:=by
     rw[hHk,hs8,hT',←Nat.mul_assoc k,Nat.mul_assoc (k*2^(s - 8)) 256,Nat.mul_comm W 256]
    have:=hex (k*2^(s - 8)) (by rw[hT];omega) (by rw[hT];omega);rw[hT,hHk,Nat.mul_assoc,Nat.mul_comm] at this;have hWp:0<2^s*W:=Nat.mul_pos hS (by omega);rw[this,if_pos (Nat.mul_mod_right _ _),Nat.mul_div_cancel_left _ hWp]
 ·rw[if_pos (by simpa using g1)];have l1:(H - 1)*W<A:=by omega
  have l2:A<(H+1)*W:=by omega
  have g0:A≠H*W∨True:= .inr trivial
  -- from(H - 1) on,and less than H+1:one of both
  by_cases g2:H*W<A
  ·obtain⟨r1,r2⟩:=qg0 (S:=2^s) (k:=k) (c:=c) (W:=W) (A:=A) (by omega) (by rw[hHs];exact g2) (by rw[hHs];exact l2);rw[if_neg r2,r1]
  ·have q1:k*(2^s*W)<A:=by
    have:k*2^s*W≤(H - 1)*W:=Nat.mul_le_mul_right _ (by omega);rw[Nat.mul_assoc] at this;omega
   have q2:A<(k+1)*(2^s*W):=by
    have:(H+1)*W≤(k+1)*2^s*W:=Nat.mul_le_mul_right _ (by rw[Nat.add_mul,Nat.one_mul];omega);rw[Nat.mul_assoc] at this;omega
   have r1:A/(2^s*W)=k:=Nat.div_eq_of_lt_le (by omega) (by omega)
   have r2:A%(2^s*W)≠0:=by
    intro e;have:=Nat.div_add_mod A (2^s*W);rw[r1,e,Nat.mul_comm] at this;omega
   rw[if_neg r2,r1]
theorem qlI (x num den G T:Nat) (h1:G∣num) (h2:G∣T) (h3:den*36893488147419103232≤G) (y:Nat) (a:x*num≤y*T+den*18446744073709551616) (b:y*T<x*num+den*36893488147419103232):x*num=y*T:=by
 obtain⟨u,rfl⟩:=h1;obtain⟨v,rfl⟩:=h2;rw[Nat.mul_left_comm x,Nat.mul_left_comm y] at*;generalize x*u=m at*;generalize y*v=n at*;rcases Nat.lt_trichotomy m n with l|l|l
 ·have:G*m+G≤G*n:=by
   have:=Nat.mul_le_mul_left G l;rw[Nat.succ_eq_add_one,Nat.mul_add,Nat.mul_one] at this;exact this
  omega
 ·rw[l]
 ·have:G*n+G≤G*m:=by
   have:=Nat.mul_le_mul_left G l;rw[Nat.succ_eq_add_one,Nat.mul_add,Nat.mul_one] at this;exact this
  have:0<G:=by
   rcases Nat.eq_zero_or_pos G with h|h
   ·subst h;simp at a b;omega
   ·exact h
  by_cases hd:den=0
  ·subst hd;omega
  ·omega
theorem qlJ (x num T den q1 r1 q2 r2 bm:Int) (hx:x<18446744073709551616) (hx2:9223372036854775808≤x)
 (hq1:0≤q1) (hq2:0≤q2) (hq:18446744073709551616≤q1+q2) (hdet:q1*r2 - q2*r1=1)
 (h1:den*18446744073709551616<q1*num - r1*T) (h2:q2*num - r2*T<0)
 (h3:den*36893488147419103232≤(q1*num - r1*T) - (q2*num - r2*T))
 (hbm:(bm - 1)*q2<9223372036854775808) (h4:bm*(q2*num - r2*T)≤ -(den*36893488147419103232))
 (y:Int) (a:x*num≤y*T+den*18446744073709551616) (b:y*T<x*num+den*36893488147419103232):False:=by
 have ea:(x*r2 - y*q2)*q1+(y*q1 - x*r1)*q2=x:=by
  have:(x*r2 - y*q2)*q1+(y*q1 - x*r1)*q2=x*(q1*r2 - q2*r1):=by grind
  rw[this,hdet,Int.mul_one]
 have eb:(x*r2 - y*q2)*r1+(y*q1 - x*r1)*r2=y:=by
  have:(x*r2 - y*q2)*r1+(y*q1 - x*r1)*r2=y*(q1*r2 - q2*r1):=by grind
  rw[this,hdet,Int.mul_one]
 generalize x*r2 - y*q2=u at*;generalize y*q1 - x*r1=v at*
 have ed:x*num - y*T=u*(q1*num - r1*T)+v*(q2*num - r2*T):=by
  rw[←ea,←eb];grind
 generalize q1*num - r1*T=D1 at*;generalize q2*num - r2*T=D2 at*;have hd:x*num - y*T≤den*18446744073709551616:=by omega
 have hd2: -(den*36893488147419103232)<x*num - y*T:=by omega
 rw[ed] at hd hd2;rcases Int.lt_or_le 0 u with hu|hu
 ·rcases Int.lt_or_le 0 v with hv|hv
  ·have p1:q1≤u*q1:=by have:=Int.mul_le_mul_of_nonneg_right hu hq1;omega
   have p2:q2≤v*q2:=by have:=Int.mul_le_mul_of_nonneg_right hv hq2;omega
   omega
  ·have p1:D1≤u*D1:=by have:=Int.mul_le_mul_of_nonneg_right hu (show 0≤D1 by omega);omega
   have p2:0≤v*D2:=Int.mul_nonneg_of_nonpos_of_nonpos hv (by omega);omega
 ·rcases Int.lt_or_le 0 v with hv|hv
  ·by_cases hu0:u=0
   ·subst hu0;simp only[Int.zero_mul,Int.zero_add] at*
    have hb:bm≤v:=by
     apply Int.not_lt.1;intro hlt;have:v*q2≤(bm - 1)*q2:=Int.mul_le_mul_of_nonneg_right (by omega) hq2;omega
    have:v*D2≤bm*D2:=Int.mul_le_mul_of_nonpos_right hb (by omega);omega
   ·have p1:u*D1≤ -1*D1:=Int.mul_le_mul_of_nonneg_right (by omega) (by omega);have p2:v*D2≤1*D2:=Int.mul_le_mul_of_nonpos_right (by omega) (by omega);omega
  ·have p1:u*q1≤0:=Int.mul_nonpos_of_nonpos_of_nonneg hu hq1;have p2:v*q2≤0:=Int.mul_nonpos_of_nonpos_of_nonneg hv hq2;omega
def rnd (u:Nat):Nat:=(u+1+u/4%2)/4
theorem or_one (a:Nat):a ||| 1=a/2*2+1:=by
 have:=Nat.div_add_mod (a ||| 1) 2;rw[Nat.or_div_two,Nat.or_mod_two_eq_one.2 (.inr rfl)] at this;simp at this;omega
theorem qgb {N1 D1 N2 D2:Nat} (h1:0<D1) (h2:0<D2) (h:N1*D2=N2*D1):unr N1 D1=unr N2 D2:=by
 have key: ∀{N1 D1 N2 D2:Nat},0<D1→0<D2→N1*D2=N2*D1→N1/D1=N1*D2/(D1*D2)∧(N1%D1=0↔N1*D2%(D1*D2)=0):=by
  intro N1 D1 N2 D2 h1 h2 _;refine⟨(Nat.mul_div_mul_right _ _ h2).symm,?_⟩;rw[Nat.mul_mod_mul_right];constructor
  ·intro h;rw[h,Nat.zero_mul]
  ·intro h;rcases Nat.mul_eq_zero.1 h with h|h
   ·exact h
   ·omega
 obtain⟨a1,a2⟩:=key h1 h2 h;obtain⟨b1,b2⟩:=key h2 h1 h.symm;unfold unr;have e:N1*D2/(D1*D2)=N2*D1/(D2*D1):=by rw[h,Nat.mul_comm D1]
 have e2:(N1%D1=0)↔(N2%D2=0):=by rw[a2,b2,h,Nat.mul_comm D1]
 rw[a1,b1,e]
 by_cases g:N2%D2=0
 ·rw[if_pos g,if_pos (e2.2 g)]
 ·rw[if_neg g,if_neg (fun x=>g (e2.1 x))]
theorem qhE (N D:Nat) (hD:0<D):unr N (D*2)=unr N D/2 ||| unr N D%2:=by
 unfold unr;have e1:N/(D*2)=N/D/2:=(Nat.div_div_eq_div_mul _ _ _).symm
 have e2:N%(D*2)=0↔(N%D=0∧N/D%2=0):=by
  rw[Nat.mod_mul];constructor
  ·intro h;have h0:N%D=0:=by omega
   refine⟨h0,?_⟩;rw[h0,Nat.zero_add] at h;rcases Nat.mul_eq_zero.1 h with h|h
   ·omega
   ·exact h
  ·rintro⟨a,b⟩;rw[a,b];rfl
 rw[e1];generalize N/D=q at*
 by_cases g:N%D=0
 ·rw[if_pos g]
  by_cases g2:q%2=0
  ·rw[if_pos (e2.2 ⟨g,g2⟩),g2,Nat.or_zero]
  ·rw[if_neg (fun x=>g2 (e2.1 x).2),show q%2=1 by omega]
 ·rw[if_neg g,if_neg (fun x=>g (e2.1 x).1),or_one q];rw[show(q/2*2+1)/2=q/2 by omega,show(q/2*2+1)%2=1 by omega]
theorem qog (N D:Nat) (hD:0<D):(2*N≤(2*rnd (unr (4*N) D)+1)*D∧(2*N=(2*rnd (unr (4*N) D)+1)*D→rnd (unr (4*N) D)%2=0))∧(0<rnd (unr (4*N) D)→(2*rnd (unr (4*N) D) - 1)*D≤2*N∧(2*N=(2*rnd (unr (4*N) D) - 1)*D→rnd (unr (4*N) D)%2=0)):=by
 have h:=Nat.div_add_mod (4*N) D;have ht:=Nat.mod_lt (4*N) hD;unfold unr;generalize 4*N%D=t at*;generalize 4*N/D=q at*;obtain⟨k,c,hc,rfl⟩: ∃k c,c<4∧q=4*k+c:=⟨q/4,q%4,Nat.mod_lt _ (by omega),by omega⟩;rw[Nat.mul_comm D,Nat.add_mul,Nat.mul_assoc] at h;have f: ∀a b:Nat,(2*a+b)*D=2*(a*D)+b*D:=fun a b=>by rw[Nat.add_mul,Nat.mul_assoc]
 have hm: ∀m:Nat,m=k→0<D→(2*N≤(2*m+1)*D∧(2*N=(2*m+1)*D→m%2=0))∧(0<m→(2*m - 1)*D≤2*N∧(2*N=(2*m - 1)*D→m%2=0))∨(2≤c∧(¬(c=2∧t=0∧k%2=0))):=by
  rintro m rfl _
  by_cases hh:2≤c∧ ¬(c=2∧t=0∧m%2=0)
  ·exact .inr hh
  ·refine .inl ⟨?_,fun hp=>?_⟩
   ·rw[f];rcases(by omega:c=0∨c=1∨c=2∨c=3)with rfl|rfl|rfl|rfl
    ·refine⟨by omega,fun e=>by omega⟩
    ·refine⟨by omega,fun e=>by omega⟩
    ·refine⟨by omega,fun e=>by omega⟩
    ·omega
   ·obtain⟨m,rfl⟩: ∃n,m=n+1:=⟨m - 1,by omega⟩;rw[show 2*(m+1) - 1=2*m+1 by omega,f];rw[Nat.add_mul m] at h;rcases(by omega:c=0∨c=1∨c=2∨c=3)with rfl|rfl|rfl|rfl
    ·refine⟨by omega,fun e=>by omega⟩
    ·refine⟨by omega,fun e=>by omega⟩
    ·refine⟨by omega,fun e=>by omega⟩
    ·omega
 have hm2:(2≤c∧ ¬(c=2∧t=0∧k%2=0))→(2*N≤(2*(k+1)+1)*D∧(2*N=(2*(k+1)+1)*D→(k+1)%2=0))∧(0<k+1→(2*(k+1) - 1)*D≤2*N∧(2*N=(2*(k+1) - 1)*D→(k+1)%2=0)):=by
  intro hh;rw[show 2*(k+1) - 1=2*k+1 by omega,show 2*(k+1)+1=2*k+3 by omega,f,f];rcases(by omega:c=2∨c=3)with rfl|rfl
  ·exact⟨⟨by omega,fun e=>by omega⟩,fun _=>⟨by omega,fun e=>by omega⟩⟩
  ·exact⟨⟨by omega,fun e=>by omega⟩,fun _=>⟨by omega,fun e=>by omega⟩⟩
 have hv:rnd (if t=0 then 4*k+c else (4*k+c) ||| 1)=if 2≤c∧ ¬(c=2∧t=0∧k%2=0) then k+1 else k:=by
  unfold rnd;rw[or_one]
  by_cases ht0:t=0
  ·rw[if_pos ht0]
   split<;>omega
  ·rw[if_neg ht0]
   split<;>omega
 rw[hv]
 by_cases hh:2≤c∧ ¬(c=2∧t=0∧k%2=0)
 ·rw[if_pos hh];exact hm2 hh
 ·rw[if_neg hh];rcases hm k rfl hD with h|h
  ·exact h
  ·exact absurd h hh
theorem qhV (N D a:Nat) (hD:0<D) (h:a*D≤N):a≤unr N D:=by
 unfold unr;have:a≤N/D:=(Nat.le_div_iff_mul_le hD).2 h
 split
 ·exact this
 ·rw[or_one];omega
theorem qhr (N D a:Nat) (hD:0<D) (ha:a%2=0) (h:a≤unr N D):a*D≤N:=by
 refine(Nat.le_div_iff_mul_le hD).1 ?_;unfold unr at h
 split at h
 ·exact h
 ·rw[or_one] at h;omega
theorem qnO (N D a:Nat) (hD:0<D) (ha:a%2=0) (h:N<a*D):unr N D<a:=by
 have:N/D<a:=(Nat.div_lt_iff_lt_mul hD).2 h;unfold unr
 split
 ·exact this
 ·rw[or_one];omega
def qoU (N d r:Nat):Prop:=(N≤M r*d∧(N=M r*d→r%2=0))∧(0<r→M (r - 1)*d≤N∧(N=M (r - 1)*d→r%2=0))
theorem qfv {N d r:Nat} (h:qoU N d r):qbm N d (min r INF):=by
 obtain⟨a,b⟩:=h
 by_cases g:r≤INF
 ·rw[Nat.min_eq_left g];exact⟨g,fun _=>a,b⟩
 ·rw[Nat.min_eq_right (by omega)];refine⟨Nat.le_refl _,fun h=>absurd h (Nat.lt_irrefl _),fun _=>⟨Nat.le_trans (Nat.mul_le_mul_right _ (qn1 (by omega))) (b (by omega)).1,fun _=>rfl⟩⟩
theorem qsx (m j:Nat) (hm:m<9007199254740992) (h1:1≤j) (h2:1<j→4503599627370496≤m):M (m+(j - 1)*4503599627370496)=(2*m+1)*2^(j - 1):=by
 unfold M fr ex
 by_cases hj:j=1
 ·subst hj;simp only[Nat.sub_self,Nat.zero_mul,Nat.add_zero]
  by_cases g:m<4503599627370496
  ·rw[if_pos g,if_pos g]
  ·rw[if_neg g,if_neg g,show m/4503599627370496=1 by omega,show 4503599627370496+m%4503599627370496=m by omega]
 ·have:=h2 (by omega);have e1:(m+(j - 1)*4503599627370496)/4503599627370496=j:=by omega
  have e2:4503599627370496+(m+(j - 1)*4503599627370496)%4503599627370496=m:=by omega
  rw[if_neg (by omega),if_neg (by omega),e1,e2]
theorem qdA (N D m j:Nat) (hm:m<9007199254740992) (h1:1≤j) (h2:1<j→4503599627370496≤m)
 (hr:(2*N≤(2*m+1)*(D*2^j)∧(2*N=(2*m+1)*(D*2^j)→m%2=0))∧(0<m→(2*m - 1)*(D*2^j)≤2*N∧(2*N=(2*m - 1)*(D*2^j)→m%2=0)))
 (h3:1<j→m=4503599627370496→18014398509481983*2^(j - 2)*D≤N):qoU N D (m+(j - 1)*4503599627370496):=by
 have hp:2^j=2^(j - 1)*2:=by rw[←Nat.pow_succ];congr 1;omega
 have hpar:(m+(j - 1)*4503599627370496)%2=m%2:=by omega
 have e: ∀a:Nat,a*(D*2^j)=2*(a*2^(j - 1)*D):=by
  intro a;rw[hp,←Nat.mul_assoc D,←Nat.mul_assoc a,Nat.mul_comm _ 2,Nat.mul_assoc a,Nat.mul_comm D]
 rw[e,e] at hr;obtain⟨⟨a1,a2⟩,b⟩:=hr;refine⟨?_,fun hr0=>?_⟩
 ·rw[qsx m j hm h1 h2,hpar];exact⟨by omega,fun q=>a2 (by omega)⟩
 ·rw[hpar]
  by_cases g:1<j∧m=4503599627370496
  ·obtain⟨g1,g2⟩:=g;have e3:m+(j - 1)*4503599627370496 - 1=9007199254740991+(j - 1 - 1)*4503599627370496:=by omega
   rw[e3,qsx 9007199254740991 (j - 1) (by omega) (by omega) (by omega)];refine⟨?_,fun _=>by omega⟩;have:=h3 g1 g2;rw[show j - 1 - 1=j - 2 by omega];exact this
  ·have hm0:0<m:=by
    apply Nat.pos_of_ne_zero;intro h0;subst h0
    by_cases g1:1<j
    ·have:=h2 g1;omega
    ·have:j=1:=by omega
     subst this;simp at hr0
   obtain⟨b1,b2⟩:=b hm0;have e3:m+(j - 1)*4503599627370496 - 1=(m - 1)+(j - 1)*4503599627370496:=by omega
   rw[e3,qsx (m - 1) j (by omega) h1 (fun g1=>by have:=h2 g1;omega),show 2*(m - 1)+1=2*m - 1 by omega];exact⟨by omega,fun q=>b2 (by omega)⟩
def pk (U j:Nat):Nat:=
 if 36028797018963966≤U then min (rnd (U/2 ||| U%2)+j*4503599627370496) INF
 else min (rnd U+(j - 1)*4503599627370496) INF
theorem qsZ (N D j:Nat) (hD:0<D) (hj:1≤j) (hlo:1<j→4503599627370496*(D*2^j)≤N) (hhi:N<18014398509481983*(D*2^j)):qbm N D (pk (unr (4*N) (D*2^j)) j):=by
 have hD2:0<D*2^j:=Nat.mul_pos hD (Nat.two_pow_pos _);unfold pk
 by_cases g:36028797018963966≤unr (4*N) (D*2^j)
 ·rw[if_pos g];have g1:=qhr _ _ _ hD2 rfl g;have e:D*2^(j+1)=D*2^j*2:=by rw[Nat.pow_succ,Nat.mul_assoc]
  have hD3:0<D*2^(j+1):=Nat.mul_pos hD (Nat.two_pow_pos _);rw[←qhE _ _ hD2,←e];have hl:18014398509481983≤unr (4*N) (D*2^(j+1)):=qhV _ _ _ hD3 (by rw[e];omega);have hu:unr (4*N) (D*2^(j+1))<36028797018963966:=qnO _ _ _ hD3 rfl (by rw[e];omega);have hr:=qog N (D*2^(j+1)) hD3;have m1:4503599627370496≤rnd (unr (4*N) (D*2^(j+1))):=by unfold rnd;omega
  have m2:rnd (unr (4*N) (D*2^(j+1)))<9007199254740992:=by unfold rnd;omega
  generalize rnd (unr (4*N) (D*2^(j+1)))=m at*
  have:=qfv (qdA N D m (j+1) m2 (by omega) (fun _=>m1) hr (fun _ _=>by
   have e5:2^j=2^(j - 1)*2:=by rw[←Nat.pow_succ];congr 1;omega
   rw[e5,←Nat.mul_assoc D] at g1;rw[show j+1 - 2=j - 1 by omega,Nat.mul_assoc,Nat.mul_comm (2^(j - 1))]
   omega))
  exact this
 ·rw[if_neg g];have hr:=qog N (D*2^j) hD2;have m2:rnd (unr (4*N) (D*2^j))<9007199254740992:=by unfold rnd;omega
  have m1:1<j→4503599627370496≤rnd (unr (4*N) (D*2^j)):=by
   intro hj1;have:=qhV (4*N) (D*2^j) 18014398509481984 hD2 (by have:=hlo hj1;omega);unfold rnd;omega
  generalize rnd (unr (4*N) (D*2^j))=m at*;refine qfv (qdA N D m j m2 hj m1 hr (fun hj1 _=>?_));have h:=hlo hj1;have e5:2^j=2^(j - 2)*4:=by rw[show(4:Nat)=2^2 from rfl,←Nat.pow_add];congr 1;omega
  rw[e5,←Nat.mul_assoc D] at h;rw[Nat.mul_assoc,Nat.mul_comm (2^(j - 2))];omega
end Go.Proofs.YtdeimnnpcfncpaaGreatDoor
end
section
namespace Go.Proofs.YtdeimnnpcfncpaaGreatDoor
open Ieee
def half (n k:Nat):Nat:=n/2^k+(decide (2^k<2*(n%2^k))||(decide (2^k=2*(n%2^k))&&decide (n/2^k%2=1))).toNat
theorem qpS (n k:Nat):(2*n≤(2*half n k+1)*2^k∧(2*n=(2*half n k+1)*2^k→half n k%2=0))∧(0<half n k→(2*half n k - 1)*2^k≤2*n∧(2*n=(2*half n k - 1)*2^k→half n k%2=0)):=by
 have h:=Nat.div_add_mod n (2^k);have ht:=Nat.mod_lt n (Nat.two_pow_pos k);unfold half;generalize n%2^k=t at*;generalize hq:n/2^k=q at*;have hG:0<2^k:=Nat.two_pow_pos k;generalize 2^k=G at*;rw[Nat.mul_comm G] at h;have f: ∀a b:Nat,(2*a+b)*G=2*(a*G)+b*G:=fun a b=>by rw[Nat.add_mul,Nat.mul_assoc]
 by_cases h1:G<2*t
 ·rw[dT h1,Bool.true_or,show true.toNat=1 from rfl];rw[show 2*(q+1) - 1=2*q+1 by omega,show 2*(q+1)+1=2*q+3 by omega,f,f];exact⟨⟨by omega,fun e=>by omega⟩,fun _=>⟨by omega,fun e=>by omega⟩⟩
 ·rw[dF h1,Bool.false_or]
  by_cases h2:G=2*t
  ·rw[dT h2,Bool.true_and]
   by_cases h3:q%2=1
   ·rw[dT h3,show true.toNat=1 from rfl];rw[show 2*(q+1) - 1=2*q+1 by omega,show 2*(q+1)+1=2*q+3 by omega,f,f];exact⟨⟨by omega,fun e=>by omega⟩,fun _=>⟨by omega,fun e=>by omega⟩⟩
   ·simp only[dF h3,show false.toNat=0 from rfl,Nat.add_zero,f];refine⟨⟨by omega,fun e=>by omega⟩,fun hp=>?_⟩;obtain⟨q,rfl⟩: ∃p,q=p+1:=⟨q - 1,by omega⟩;rw[show 2*(q+1) - 1=2*q+1 by omega,f];rw[Nat.add_mul] at h;exact⟨by omega,fun e=>by omega⟩
  ·simp only[dF h2,Bool.false_and,show false.toNat=0 from rfl,Nat.add_zero,f];refine⟨⟨by omega,fun e=>by omega⟩,fun hp=>?_⟩;obtain⟨q,rfl⟩: ∃p,q=p+1:=⟨q - 1,by omega⟩;rw[show 2*(q+1) - 1=2*q+1 by omega,f];rw[Nat.add_mul] at h;exact⟨by omega,fun e=>by omega⟩
theorem qmh (neg:Bool) (n k:Nat) (hn:0<n):Toward.even.cut neg n k=half n k:=by
 unfold Toward.cut;dsimp only;rw[Nat.one_shiftLeft]
 by_cases hk:k≤n.log2+2
 ·rw[Nat.min_eq_left hk];unfold half
  congr 2
 ·rw[Nat.min_eq_right (by omega)];have h1:n<2^(n.log2+1):=Nat.lt_log2_self;have h2:2^(n.log2+2)=2*2^(n.log2+1):=by rw[Nat.pow_succ];omega
  have h3:2^(n.log2+2)≤2^k:=Nat.pow_le_pow_right (by omega) (by omega);unfold half;rw[Nat.div_eq_of_lt (show n<2^(n.log2+2) by omega),Nat.mod_eq_of_lt (show n<2^(n.log2+2) by omega),Nat.div_eq_of_lt (show n<2^k by omega),Nat.mod_eq_of_lt (show n<2^k by omega)];have e1:decide (2^(n.log2+2)<2*n)=false:=dF (by omega);have e2:(2^(n.log2+2)==2*n)=false:=by simp;omega
  have e3:decide (2^k<2*n)=false:=dF (by omega);have e4:decide (2^k=2*n)=false:=dF (by omega);rw[e1,e2,e3,e4];rfl
theorem qkH (N D m j:Nat) (hm:m≤9007199254740992) (h1:1≤j) (h2:1<j→4503599627370496≤m)
 (hr:(2*N≤(2*m+1)*(D*2^j)∧(2*N=(2*m+1)*(D*2^j)→m%2=0))∧(0<m→(2*m - 1)*(D*2^j)≤2*N∧(2*N=(2*m - 1)*(D*2^j)→m%2=0)))
 (h3:1<j→m=4503599627370496→18014398509481983*2^(j - 2)*D≤N):qoU N D (m+(j - 1)*4503599627370496):=by
 by_cases g:m=9007199254740992
 ·subst g;obtain⟨⟨a1,_⟩,b⟩:=hr;obtain⟨b1,_⟩:=b (by omega);have e:D*2^(j+1)=2*(D*2^j):=by rw[Nat.pow_succ];rw[←Nat.mul_assoc,Nat.mul_comm]
  have e2:(9007199254740992+(j - 1)*4503599627370496)=4503599627370496+(j+1 - 1)*4503599627370496:=by omega
  rw[e2];refine qdA N D 4503599627370496 (j+1) (by omega) (by omega) (fun _=>by omega) ?_ (fun _ _=>?_)
  ·rw[e];generalize D*2^j=Z at*;exact⟨⟨by omega,fun _=>by omega⟩,fun _=>⟨by omega,fun _=>by omega⟩⟩
  ·have e3:D*2^j=2*(2^(j+1 - 2)*D):=by
    rw[show 2^j=2^(j+1 - 2)*2 by rw[←Nat.pow_succ];congr 1;omega];rw[←Nat.mul_assoc,Nat.mul_comm D,Nat.mul_comm]
   rw[e3] at b1;rw[Nat.mul_assoc];generalize 2^(j+1 - 2)*D=Z at*;omega
 ·exact qdA N D m j (by omega) h1 h2 hr h3
def sgw (neg:Bool):Nat:=if neg then 9223372036854775808 else 0
theorem qqD (neg:Bool) (r:Nat):double.word neg r=sgw neg+r:=by
 cases neg
 ·exact(Nat.zero_add r).symm
 ·rfl
theorem qcZ (neg:Bool) (mag:Nat) (place:Int) (hm:0<mag) (a b:Nat) (hab:place+1075+a=b):
 ∃r,double.nearest neg mag place=sgw neg+r∧qbm (mag*2^b) (2^a) r:=by
 have hl1:2^mag.log2≤mag:=Nat.log2_self_le (by omega);have hl2:mag<2^(mag.log2+1):=Nat.lt_log2_self;generalize hL:mag.log2=L at*;obtain⟨last,hlast⟩: ∃last:Int,last=max (place+L - 52) (-1074):=⟨_,rfl⟩;obtain⟨j,hj⟩: ∃j:Nat,(j:Int)=last+1075:=⟨(last+1075).toNat,by omega⟩;obtain⟨up,hup⟩: ∃up:Nat,up=(place - last).toNat:=⟨_,rfl⟩;obtain⟨dr,hdr⟩: ∃dr:Nat,dr=(last - place).toNat:=⟨_,rfl⟩;have hj1:1≤j:=by omega
 have hn:0<mag*2^up:=Nat.mul_pos hm (Nat.two_pow_pos _);obtain⟨m,hmv⟩: ∃m,m=half (mag*2^up) dr:=⟨_,rfl⟩;refine⟨min (m+(j - 1)*4503599627370496) INF,?_,?_⟩
 ·unfold Format.nearest;rw[if_neg (by omega),hL];have e1:double.leastPlace= -1074:=by decide
  have e2:double.binade=4503599627370496:=by decide
  have e3:double.infRung=INF:=by decide
  have e4:double.fractionBits=52:=rfl;dsimp only;rw[e1,e2,e3,e4];have e5:max (place+((L:Nat):Int) - ((52:Nat):Int)) (-1074)=last:=by omega
  rw[e5,Nat.shiftLeft_eq,←hup,←hdr,qmh neg _ _ hn,←hmv,qqD];have e6:(last - -1074).toNat=j - 1:=by omega
  rw[e6,Nat.add_comm m]
 ·apply qfv;have ho:=qpS (mag*2^up) dr;rw[←hmv] at ho
  -- mag*2^up/2^dr=N/(D*2^j)
  have hcr: ∀k:Nat,k*2^dr*2^b=k*2^a*2^j*2^up:=by
   intro k;rw[Nat.mul_assoc k,Nat.mul_assoc k,Nat.mul_assoc k,←Nat.pow_add,←Nat.pow_add,←Nat.pow_add]
   congr 2;omega
  have hz:0<2^b:=Nat.two_pow_pos _;have hz2:0<2^up:=Nat.two_pow_pos _
  have cmp: ∀k:Nat,(2*(mag*2^up)≤k*2^dr↔2*(mag*2^b)≤k*(2^a*2^j))∧(k*2^dr≤2*(mag*2^up)↔k*(2^a*2^j)≤2*(mag*2^b)):=by
   intro k;have h1:=hcr k
   have l:2*(mag*2^up)*2^b=2*(mag*2^b)*2^up:=by
    rw[Nat.mul_assoc,Nat.mul_assoc,Nat.mul_assoc 2,Nat.mul_assoc mag,Nat.mul_comm (2^up)]
   rw[Nat.mul_assoc k (2^a)] at h1;constructor
   ·rw[←Nat.mul_le_mul_right_iff hz,l,h1,Nat.mul_le_mul_right_iff hz2]
   ·rw[←Nat.mul_le_mul_right_iff hz,l,h1,Nat.mul_le_mul_right_iff hz2]
  have ceq: ∀k:Nat,2*(mag*2^b)=k*(2^a*2^j)→2*(mag*2^up)=k*2^dr:=by
   intro k e;have:=cmp k;exact Nat.le_antisymm (this.1.2 (by omega)) (this.2.2 (by omega))
  -- bounds of m
  have hub:mag*2^up<9007199254740992*2^dr:=by
   have:mag*2^up<2^(L+1)*2^up:=Nat.mul_lt_mul_of_pos_right hl2 hz2;refine Nat.lt_of_lt_of_le this ?_;rw[show(9007199254740992:Nat)=2^53 from rfl,←Nat.pow_add,←Nat.pow_add];exact Nat.pow_le_pow_right (by omega) (by omega)
  have hlb:1<j→4503599627370496*2^dr≤mag*2^up:=by
   intro hj2;have:2^L*2^up≤mag*2^up:=Nat.mul_le_mul_right _ hl1;refine Nat.le_trans ?_ this;rw[show(4503599627370496:Nat)=2^52 from rfl,←Nat.pow_add,←Nat.pow_add];exact Nat.pow_le_pow_right (by omega) (by omega)
  have hG:0<2^dr:=Nat.two_pow_pos _
  have hm53:m≤9007199254740992:=by
   apply Nat.le_of_not_lt;intro hlt;obtain⟨_,b2⟩:=ho;obtain⟨b3,_⟩:=b2 (by omega);have:(2*9007199254740992+1)*2^dr≤(2*m - 1)*2^dr:=Nat.mul_le_mul_right _ (by omega);omega
  have hm52:1<j→4503599627370496≤m:=by
   intro hj2;apply Nat.le_of_not_lt;intro hlt;obtain⟨⟨b3,_⟩,_⟩:=ho;have h5:=hlb hj2;have:(2*m+1)*2^dr≤(2*4503599627370496 - 1)*2^dr:=Nat.mul_le_mul_right _ (by omega);omega
  refine qkH (mag*2^b) (2^a) m j hm53 hj1 hm52 ?_ ?_
  ·obtain⟨⟨o1,o2⟩,o3⟩:=ho;refine⟨⟨(cmp _).1.1 o1,fun e=>o2 (ceq _ e)⟩,fun h=>?_⟩;obtain⟨o4,o5⟩:=o3 h;exact⟨(cmp _).2.1 o4,fun e=>o5 (ceq _ e)⟩
  ·intro hj2 _;have h5:=hlb hj2;have h6:=(cmp (2*4503599627370496)).2.1 (by omega);have e3:2^j=2^(j - 2)*4:=by rw[show(4:Nat)=2^2 from rfl,←Nat.pow_add];congr 1;omega
   rw[e3,←Nat.mul_assoc (2^a),Nat.mul_comm (2^a)] at h6;rw[Nat.mul_assoc];generalize 2^(j - 2)*2^a=Z at*;omega
theorem qes {N1 D1 N2 D2 r:Nat} (h1:0<D1) (h2:0<D2) (e:N1*D2=N2*D1) (h:qbm N1 D1 r):qbm N2 D2 r:=
 qfs h1 h1 h2 (by omega) (by omega) h h
theorem qjI (r D:Nat) (hr:r≤INF) (hD:0<D):qbm (2*V r*D) D r:=by
 have up:2*V r<M r:=by rw[ql9];have:=qbI r;omega
 refine⟨hr,fun _=>⟨Nat.mul_le_mul_right _ (by omega),fun e=>?_⟩,fun h=>⟨Nat.mul_le_mul_right _ ?_,fun e=>?_⟩⟩
 ·have:=Nat.eq_of_mul_eq_mul_right hD e;omega
 ·rw[ql9];have:=qbI (r - 1);rw[show r - 1+1=r by omega] at*;omega
 ·have h1:=Nat.eq_of_mul_eq_mul_right hD e;rw[ql9] at h1;have:=qbI (r - 1);rw[show r - 1+1=r by omega] at*;omega
theorem qcX {N D r r0:Nat} (hD:0<D) (hr:r0≤INF) (e:N=2*V r0*D) (h:qbm N D r):r=r0:=by
 subst e;exact qd1 hD h (qjI r0 D hr hD)
theorem qrR (r:Nat) (hr:r<INF):double.read r= .number false (fr r) (-1074+((ex r - 1:Nat):Int))∧double.read (9223372036854775808+r)= .number true (fr r) (-1074+((ex r - 1:Nat):Int)):=by
 have e1:double.leastPlace= -1074:=by decide
 have e2:double.binade=4503599627370496:=by decide
 have e3:double.infRung=9218868437227405312:=by decide
 have e4:double.signWeight=9223372036854775808:=by decide
 have hr':r<9218868437227405312:=hr
 have key: ∀(W:Nat) (b:Bool),W%9223372036854775808=r→(W/9223372036854775808%2==1)=b→double.read W= .number b (fr r) (-1074+((ex r - 1:Nat):Int)):=by
  intro W b h1 h2;unfold Format.read;dsimp only;rw[e1,e2,e3,e4,h1,h2];unfold fr ex
  by_cases g:r<4503599627370496
  ·rw[if_pos g,if_pos g,if_pos g];rfl
  ·rw[if_neg g,if_neg g,if_neg g,if_pos hr']
 refine⟨key r false (by omega) ?_,key _ true (by omega) ?_⟩
 ·rw[beq_eq_false_iff_ne];omega
 ·rw[beq_iff_eq];omega
theorem qbE (neg:Bool) (r:Nat) (hr:r<INF):double.read (sgw neg+r)= .number neg (fr r) (-1074+((ex r - 1:Nat):Int)):=by
 cases neg
 ·show double.read (0+r)=_;rw[Nat.zero_add];exact(qrR r hr).1
 ·exact(qrR r hr).2
theorem qtE (m j:Nat) (hm:m<9007199254740992) (h1:1≤j) (h2:1<j→4503599627370496≤m):V (m+(j - 1)*4503599627370496)=m*2^(j - 1):=by
 have h:=qsx m j hm h1 h2;unfold M at h;unfold V
 by_cases hj:j=1
 ·subst hj;unfold fr ex;simp only[Nat.sub_self,Nat.zero_mul,Nat.add_zero]
  by_cases g:m<4503599627370496
  ·rw[if_pos g,if_pos g]
  ·rw[if_neg g,if_neg g,show m/4503599627370496=1 by omega,show 4503599627370496+m%4503599627370496=m by omega]
 ·have:=h2 (by omega);have e1:(m+(j - 1)*4503599627370496)/4503599627370496=j:=by omega
  have e2:4503599627370496+(m+(j - 1)*4503599627370496)%4503599627370496=m:=by omega
  unfold fr ex;rw[if_neg (by omega),if_neg (by omega),e1,e2]
theorem qhT (m:Nat) (h0:0<m) (h:m<9007199254740992): ∃r,r<INF∧V r=m*2^1074∧0<r:=by
 have hl1:2^m.log2≤m:=Nat.log2_self_le (by omega);have hl2:m<2^(m.log2+1):=Nat.lt_log2_self
 have hL:m.log2≤52:=by
  apply Nat.le_of_not_lt;intro hlt;have:=Nat.pow_le_pow_right (n:=2) (by omega) (show 53≤m.log2 by omega);have e:(2:Nat)^53=9007199254740992:=rfl;omega
 generalize m.log2=L at*
 have a1:4503599627370496≤m*2^(52 - L):=by
  rw[show(4503599627370496:Nat)=2^L*2^(52 - L) by rw[←Nat.pow_add,show L+(52 - L)=52 by omega]];exact Nat.mul_le_mul_right _ hl1
 have a2:m*2^(52 - L)<9007199254740992:=by
  rw[show(9007199254740992:Nat)=2^(L+1)*2^(52 - L) by rw[←Nat.pow_add,show L+1+(52 - L)=53 by omega]];exact Nat.mul_lt_mul_of_pos_right hl2 (Nat.two_pow_pos _)
 refine⟨m*2^(52 - L)+(1023+L - 1)*4503599627370496,?_,?_,by omega⟩
 ·unfold INF;omega
 ·rw[qtE _ _ a2 (by omega) (fun _=>a1),Nat.mul_assoc,←Nat.pow_add]
  congr 2;omega
theorem qip (r:Nat):fr r*2^(ex r - 1)=V r:=rfl
theorem qne {r:Nat} (h:0<r):0<V r:=by have:=qlv h;omega
theorem qoa {r:Nat} (h:0<r):0<fr r:=by
 apply Nat.pos_of_ne_zero;intro e;have:=qne h;rw[←qip,e,Nat.zero_mul] at this;omega
theorem of_int (neg:Bool) (m:Nat) (h0:0<m) (r0:Nat) (hr:r0<INF) (hV:V r0=m*2^1074):double.nearest neg m 0=sgw neg+r0:=by
 obtain⟨r,h1,h2⟩:=qcZ neg m 0 h0 0 1075 (by omega);rw[h1,qcX (r0:=r0) (Nat.two_pow_pos 0) (by omega) ?_ h2];obtain⟨K,hK⟩: ∃K:Nat,K=1074:=⟨_,rfl⟩;rw[hV,←hK,show 1075=K+1 by omega,Nat.pow_succ,Nat.pow_zero,Nat.mul_one,Nat.mul_comm 2,Nat.mul_assoc]
theorem qhz (s t:Bool) (a b A B:Nat) (ha:a<INF) (hb:b<INF) (hA:V a=A*2^1074) (hB:V b=B*2^1074) (ha0:0<a) (hb0:0<b):
 ∃r,double.mul (sgw s+a) (sgw t+b)=some (sgw (s ^^ t)+r)∧qbm (A*B*2^1075) 1 r:=by
 obtain⟨r,h1,h2⟩:=qcZ (s ^^ t) (fr a*fr b) (-1074+((ex a - 1:Nat):Int)+(-1074+((ex b - 1:Nat):Int))) (Nat.mul_pos (qoa ha0) (qoa hb0)) 1073 ((ex a - 1)+(ex b - 1)) (by omega);refine⟨r,?_,qes (Nat.two_pow_pos _) Nat.one_pos ?_ h2⟩
 ·unfold Format.mul;rw[qbE s a ha,qbE t b hb];simp only[Datum.product,Option.map_some,Format.write];rw[h1]
 ·rw[Nat.mul_one,Nat.pow_add,show fr a*fr b*(2^(ex a - 1)*2^(ex b - 1))=(fr a*2^(ex a - 1))*(fr b*2^(ex b - 1)) by rw[Nat.mul_mul_mul_comm],qip,qip,hA,hB];obtain⟨K,hK⟩: ∃K:Nat,K=1073:=⟨_,rfl⟩;rw[←hK,show 1074=K+1 by omega,show 1075=K+2 by omega,Nat.mul_mul_mul_comm,←Nat.pow_add,Nat.mul_assoc (A*B),←Nat.pow_add]
  congr 2;omega
end Go.Proofs.YtdeimnnpcfncpaaGreatDoor
end
section
namespace Go.Proofs.YtdeimnnpcfncpaaGreatDoor
def qbY:List UInt8→List UInt8×Nat
 | []=>([],0)
 |c::t=>(UInt8.ofNat (48+(2*(c.toNat - 48)+(qbY t).2)%10)::(qbY t).1,(2*(c.toNat - 48)+(qbY t).2)/10)
def qgC (l:List UInt8):List UInt8:=if (qbY l).2=0 then (qbY l).1 else UInt8.ofNat (48+(qbY l).2)::(qbY l).1
def qcH:Nat→List UInt8→List UInt8×Nat
 |r,[]=>([],r)
 |r,c::t=>(UInt8.ofNat (48+(10*r+(c.toNat - 48))/2)::(qcH ((10*r+(c.toNat - 48))%2) t).1,(qcH ((10*r+(c.toNat - 48))%2) t).2)
def qfw (l:List UInt8):List UInt8:=if (qcH 0 l).2=0 then (qcH 0 l).1 else (qcH 0 l).1++[53]
def qeE (l:List UInt8):Nat:=if (qcH 0 l).2=0 then 0 else 1
def qaR (l:List UInt8):Prop:= ∀c∈l,48≤c.toNat∧c.toNat≤57
theorem qaV (n:Nat) (h:n<256):(UInt8.ofNat n).toNat=n:=by
 rw[UInt8.toNat_ofNat'];exact Nat.mod_eq_of_lt h
theorem qd7 (l:List UInt8) (h:qaR l):(qbY l).2≤1∧qaR (qbY l).1∧(qbY l).1.length=l.length:=by
 induction l with
 |nil=>exact⟨Nat.zero_le _,(fun c hc=>by cases hc),rfl⟩
 |cons c t ih=>
  obtain⟨a,b,d⟩:=ih (fun x hx=>h x (List.mem_cons_of_mem _ hx));have hc:=h c (List.mem_cons_self ..);unfold qbY;generalize (qbY t).2=r at*;refine⟨by show(2*(c.toNat - 48)+r)/10≤1;omega,fun x hx=>?_,by simp[d]⟩
  cases hx with
  |head=>rw[qaV _ (by omega)];omega
  |tail _ hx=>exact b x hx
theorem qj2 (l:List UInt8) (h:qaR l):qaR (qgC l)∧l.length≤(qgC l).length∧(qgC l).length≤l.length+1:=by
 obtain⟨a,b,d⟩:=qd7 l h;unfold qgC
 split
 ·exact⟨b,by omega,by omega⟩
 ·refine⟨fun x hx=>?_,by simp[d],by simp[d]⟩
  cases hx with
  |head=>rw[qaV _ (by omega)];omega
  |tail _ hx=>exact b x hx
theorem qg7 (l:List UInt8) (h:qaR l): ∀r,r≤1→(qcH r l).2≤1∧qaR (qcH r l).1∧(qcH r l).1.length=l.length:=by
 induction l with
 |nil=>intro r hr;exact⟨hr,(fun c hc=>by cases hc),rfl⟩
 |cons c t ih=>
  intro r hr;have hc:=h c (List.mem_cons_self ..);obtain⟨a,b,d⟩:=ih (fun x hx=>h x (List.mem_cons_of_mem _ hx)) ((10*r+(c.toNat - 48))%2) (by omega);unfold qcH;refine⟨a,fun x hx=>?_,by simp[d]⟩
  cases hx with
  |head=>rw[qaV _ (by omega)];omega
  |tail _ hx=>exact b x hx
theorem qja (l:List UInt8) (h:qaR l):qaR (qfw l)∧(qfw l).length=l.length+qeE l:=by
 obtain⟨a,b,d⟩:=qg7 l h 0 (by omega);unfold qfw qeE
 split
 ·exact⟨b,by omega⟩
 ·refine⟨fun x hx=>?_,by simp[d]⟩;rw[List.mem_append] at hx;rcases hx with hx|hx
  ·exact b x hx
  ·rw[List.mem_singleton] at hx;subst hx;exact⟨by decide,by decide⟩
theorem qlg (l:List UInt8) (i:Nat) (h:i<l.length):qbY (l.drop i)=(UInt8.ofNat (48+(2*((l.getD i 0).toNat - 48)+(qbY (l.drop (i+1))).2)%10)::(qbY (l.drop (i+1))).1,(2*((l.getD i 0).toNat - 48)+(qbY (l.drop (i+1))).2)/10):=by
 rw[List.drop_eq_getElem_cons h,qbY,List.getD_eq_getElem?_getD,List.getElem?_eq_getElem h];rfl
theorem qkw (r:Nat) (l:List UInt8) (i:Nat) (h:i<l.length):qcH r (l.drop i)=(UInt8.ofNat (48+(10*r+((l.getD i 0).toNat - 48))/2)::(qcH ((10*r+((l.getD i 0).toNat - 48))%2) (l.drop (i+1))).1,(qcH ((10*r+((l.getD i 0).toNat - 48))%2) (l.drop (i+1))).2):=by
 rw[List.drop_eq_getElem_cons h,qcH,List.getD_eq_getElem?_getD,List.getElem?_eq_getElem h];rfl
def qlw:Nat→List UInt8→List UInt8|0,l=>l|n+1,l=>qlw n (qgC l)
def qp5:Nat→List UInt8→Nat→List UInt8×Nat|0,l,k=>(l,k)|n+1,l,k=>qp5 n (qfw l) (k+qeE l)
end Go.Proofs.YtdeimnnpcfncpaaGreatDoor
end
