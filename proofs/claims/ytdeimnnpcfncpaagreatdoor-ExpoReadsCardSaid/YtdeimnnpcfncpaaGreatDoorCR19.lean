/- Parts of the proof: D14 W1 F21 X1 X2 KB F25. -/
import Derived.Test.YtdeimnnpcfncpaaGreatDoorRows
import Derived.ProofKit
import Derived.LaidMore
import Derived.OpenShut
import Derived.Lib.LaidTab
import Derived.Lib.LaidU8
import Derived.Stop.LaidErr
import Derived.MakeChecks
import Derived.HandedShaped
import Derived.Lay
import Derived.Shelf.Vars
import Derived.Test.YtdeimnnpcfncpaaGreatDoorCR17
import Derived.Test.YtdeimnnpcfncpaaGreatDoorCR18
set_option linter.unusedVariables false
set_option linter.unusedSimpArgs false
set_option maxRecDepth 100000
set_option maxHeartbeats 64000000
section
namespace Go.Proofs.YtdeimnnpcfncpaaGreatDoor
open Go Go.RowKit
theorem qwL (n:Nat) (w:World):(callFunc 131 #[.float .f64 n]).run Tryz.prog w= .ok (.value (.int .u64 (n:Int))) w:=by
 rw[run_callFunc_extern (e:=Extern.MathFloatBits.float64bits) Tryz.func131 (by kernel_rfl) (by kernel_rfl) (by kernel_rfl) (by kernel_rfl)];rfl
theorem qmd (s:ByteArray) (hs:s.size≤780) (w:World):Calls Tryz.prog 130 #[.string s] w fun e w'=>e= .returned (.string s)∧w=w':=by
 have u1:decide ((s.size:Int)≤780)=true:=dT (by omega);have u1':decide (s.size≤780)=true:=dT hs;go_enter Tryz.func130,Tryz.ntmps130;go_wp2_with fail;go_ret;exact⟨rfl,rfl⟩
def qko (v e:Int) (w:World) (x:Ending) (w':World):Prop:=x= .returned (.tuple #[.int .u64 v,.int .i64 e])∧Below w.heap.size w w'
def qbz (l:List UInt8):Bool:=(l==[73,110,102])||(l==[43,73,110,102])||(l==[45,73,110,102])||(l==[78,97,78])
theorem qm8 (s:ByteArray) (hs:1200<s.size) (w:World):Calls Tryz.prog 73 #[.string s] w (qko 0 3 w):=by
 have u1:decide ((1200:Int)<(s.size:Int))=true:=dT (by omega);have u1':decide (1200<s.size)=true:=dT hs;go_enter Tryz.func73,Tryz.ntmps73;go_wp2_with fail;go_ret2;exact⟨rfl,Below.refl _ _⟩
theorem qlL (s:ByteArray) (h:qbz s.data.toList=false):(s.toList==[73,110,102])=false∧(s.toList==[43,73,110,102])=false∧(s.toList==[45,73,110,102])=false∧(s.toList==[78,97,78])=false:=by
 rw[ByteArray.toList_eq];unfold qbz at h;simp only[Bool.or_eq_false_iff] at h;exact⟨h.1.1.1,h.1.1.2,h.1.2,h.2⟩
theorem qoN (s:ByteArray) (hs:s.size≤1200) (h1:qbz s.data.toList=false) (h2:qau s.data.toList=false) (w:World):Calls Tryz.prog 73 #[.string s] w (qko 0 210 w):=by
 have u1:decide ((1200:Int)<(s.size:Int))=false:=dF (by omega);have u1':decide (1200<s.size)=false:=dF (by omega);obtain⟨n1,n2,n3,n4⟩:=qlL s h1;have c1:=qgT s (by omega) w;rw[h2] at c1;replace c1:=Lh c1;clear h1 h2;go_enter Tryz.func73,Tryz.ntmps73;go_wp2_with fail;refine c1.out.mono ?_;rintro x w1 ⟨rfl,rfl⟩;go_wp2_with fail;go_ret2;exact⟨rfl,Below.refl _ _⟩
theorem ql1 (s:ByteArray) (hs:s.size≤780) (h1:qbz s.data.toList=false) (h2:qau s.data.toList=true) (ng:Bool) (v:Nat) (w:World) (hG:qqD w) (h: ∀W,qgu W→Calls Tryz.prog 263 #[.string s] W (AtRet ng v s.size W)):
 Calls Tryz.prog 73 #[.string s] w (qko ((sgw ng+v:Nat):Int) 0 w):=by
 have u1:decide ((1200:Int)<(s.size:Int))=false:=dF (by omega);have u1':decide (1200<s.size)=false:=dF (by omega);obtain⟨n1,n2,n3,n4⟩:=qlL s h1;have c1:=qgT s (by omega) w;rw[h2] at c1;replace c1:=Lh c1;have c2:=Lh (qmd s hs w);have c3:=Lh (qhT s (by omega) ng v w hG h);obtain⟨f,hf⟩: ∃f,f=sgw ng+v:=⟨_,rfl⟩;rw[←hf] at c3⊢;clear h1 h2 hG h hf;go_enter Tryz.func73,Tryz.ntmps73;go_wp2_with fail;refine c1.out.mono ?_;rintro x w1 ⟨rfl,rfl⟩;go_wp2_with fail;refine c2.out.mono ?_;rintro x w1 ⟨rfl,rfl⟩;go_wp2_with fail;refine c3.out.mono ?_;rintro x w1 ⟨⟨er,rfl⟩,hB⟩;have hB':=Lh hB;have hb:=qwL f w1;clear hB;go_wp2_with fail;go_ret2;exact⟨rfl,hB'.out⟩
def qqH (l:List UInt8):Nat:=sgw (ngL l)+v64 (qby (qfi l)).mant (qaG (qby (qfi l)) (qfw (tlL l)))
theorem qnQ {P:Program} {w w':World} {n:String} {k:IntKind} {zs:List Int} (h:Lib.TabIs P w n k zs) (hb:Below w.heap.size w w'):Lib.TabIs P w' n k zs:=by
 unfold Lib.TabIs World.var? at*
 cases hg:P.globalNamed n with
 |none=>rw[hg] at h;cases h
 |some g=>
  rw[hg] at h;simp only[Option.bind_some] at h⊢
  have hlt:g<w.heap.size:=by
   rcases Nat.lt_or_ge g w.heap.size with h'|h'
   ·exact h'
   ·rw[Array.getElem?_eq_none h'] at h;cases h
  rw[hb.block g hlt];exact h
structure qtE (w:World):Prop where
 p:qqD w
 tab:Lib.TabIs Tryz.prog w "internal/strconv.uint64pow10" .u64 Lib.pow10Tab
theorem qtE.on {w W:World} (h:qtE w) (hb:Below w.heap.size w W):qtE W:=⟨h.p.on hb,qnQ h.tab hb⟩
end Go.Proofs.YtdeimnnpcfncpaaGreatDoor
end
section
namespace Go.Proofs.YtdeimnnpcfncpaaGreatDoor
open Go
def okB (c:UInt8):Bool:=isD c||c==46||c==101||c==69||c==43||c==45
theorem qnp {c:UInt8} (h:isD c=true):c≠46:=fun e=>by subst e;exact absurd h (by decide)
theorem qcq (l:List UInt8) (h: ∀c∈l,isD c=true):l.count 46=0:=List.count_eq_zero.2 (fun hm=>qnp (h _ hm) rfl)
theorem qcV {c:UInt8} (h:isD c=true):okB c=true:=by unfold okB;rw[h];rfl
theorem qeH (A R:List UInt8) (hA: ∀c∈A,isD c=true) (hR: ∀c,R.head?=some c→isD c=false):qaz (A++R)=A.length:=by
 unfold qaz;rw[List.takeWhile_append_of_pos hA]
 cases R with
 |nil=>simp
 |cons c t=>rw[List.takeWhile_cons,hR c rfl];simp
theorem qq9 (A B R:List UInt8) (hA: ∀c∈A,isD c=true) (hB: ∀c∈B,isD c=true) (hR: ∀c,R.head?=some c→isD c=false):qfh (A++46::(B++R))=(A.length+B.length,R):=by
 have h1:=qeH A (46::(B++R)) hA (fun c hc=>by cases hc;rfl);have h2:=qeH B R hB hR;unfold qfh;dsimp only;rw[h1,List.drop_left];dsimp only;rw[if_pos rfl,h2,List.drop_left]
end Go.Proofs.YtdeimnnpcfncpaaGreatDoor
end
section
namespace Go.Proofs.YtdeimnnpcfncpaaGreatDoor
open Go Go.RowKit
def dgT (c:UInt8):UInt8:=UInt8.ofNat (48+c.toNat%10)
def tx (l:List UInt8) (i:Nat):List UInt8:=if i=0 then [48] else (l.take i).map dgT
def BS (l:List UInt8):ByteArray:=⟨l.toArray⟩
theorem qad (l:List UInt8):(BS l).size=l.length:=by unfold BS;show l.toArray.size=_;simp
theorem qbT (a b:List UInt8):BS a++BS b=BS (a++b):=by apply qbm;simp[BS]
structure qvm (w:World):Prop where
 a:qtE w
 m: ∃m:Int,w.cell? ⟨0,0,none⟩=some (.int .i64 m)
theorem qvm.on {w W:World} (h:qvm w) (hb:Below w.heap.size w W):qvm W:=by
 refine⟨h.a.on hb,?_⟩;obtain⟨m,hm⟩:=h.m;exact⟨m,by rw[hb.cell (p:=⟨0,0,none⟩) (by have:=h.a.p.f.big;show 0<_;omega)];exact hm⟩
end Go.Proofs.YtdeimnnpcfncpaaGreatDoor
end
section
namespace Go.Proofs.YtdeimnnpcfncpaaGreatDoor
open Go Ieee
theorem qeO (l:List UInt8) (h:qaQ l):qas l<10^l.length:=by
 induction l with
 |nil=>exact Nat.one_pos
 |cons c t ih=>
  have hc:=h c (List.mem_cons_self ..);have:=ih (fun x hx=>h x (List.mem_cons_of_mem _ hx));rw[qaS,List.length_cons,Nat.pow_succ];have h9:(c.toNat - 48)*10^t.length≤9*10^t.length:=Nat.mul_le_mul_right _ (by omega);omega
theorem qbZ {c:UInt8} {t:List UInt8} (h:qaQ (c::t)):48≤c.toNat∧c.toNat≤57∧qaQ t:=⟨(h c (List.mem_cons_self ..)).1,(h c (List.mem_cons_self ..)).2,fun x hx=>h x (List.mem_cons_of_mem _ hx)⟩
theorem qed {a b:List UInt8} (h:qaQ (a++b)):qaQ a∧qaQ b:=⟨fun x hx=>h x (List.mem_append_left _ hx),fun x hx=>h x (List.mem_append_right _ hx)⟩
theorem qwJ {c:UInt8} (h:c.toNat=48):c=48:=UInt8.toNat_inj.1 h
theorem qdi (c:UInt8) (t:List UInt8) (h:qaQ (c::t)) (hc:c≠48):10^t.length≤qas (c::t):=by
 obtain⟨h1,h2,h3⟩:=qbZ h;rw[qaS];have h4:c.toNat≠48:=fun e=>hc (qwJ e)
 have:1*10^t.length≤(c.toNat - 48)*10^t.length:=Nat.mul_le_mul_right _ (by omega);omega
theorem canon (n:Nat): ∀l:List UInt8,l.length=n→qaQ l→l≠[]→(l.head?≠some 48∨l.length=1)→l=Lib.decDigits (qas l):=by
 induction n with
 |zero=>intro l h _ h0;exact absurd (List.eq_nil_of_length_eq_zero h) h0
 |succ n ih=>
  intro l hl hd h0 hh;obtain⟨a,x,rfl⟩: ∃a x,l=a++[x]:=⟨l.dropLast,l.getLast h0,(List.dropLast_concat_getLast h0).symm⟩;obtain⟨ha,hx⟩:=qed hd;have hx1:=hx x (List.mem_singleton.2 rfl);rw[List.length_append,List.length_singleton] at hl
  by_cases hn:a=[]
  ·subst hn;rw[List.nil_append,qcD,Lib.decDigits,dif_pos (by omega)];rw[show 48+(x.toNat - 48)=x.toNat by omega,UInt8.ofNat_toNat]
  ·have hha:a.head?≠some 48:=by
    rcases hh with hh|hh
    ·intro e;apply hh
     cases a with
     |nil=>exact absurd rfl hn
     |cons c t=>exact e
    ·rw[List.length_append,List.length_singleton] at hh;have:=List.length_pos_iff.2 hn;omega
   have hi:=ih a (by omega) ha hn (.inl hha)
   have hp:1≤qas a:=by
    cases a with
    |nil=>exact absurd rfl hn
    |cons c t=>
     have:=qdi c t ha (fun e=>hha (by rw[e];rfl));have:=Nat.pow_pos (n:=t.length) (show 0<10 by decide);omega
   rw[qa6,qcD,List.length_singleton,Nat.pow_one,Lib.decDigits,dif_neg (by omega)];rw[show(qas a*10+(x.toNat - 48))/10=qas a by omega,show 48+(qas a*10+(x.toNat - 48))%10=x.toNat by omega,←hi,UInt8.ofNat_toNat]
theorem qlY (l:List UInt8) (h:qaQ l):Lib.trimLeftB l 48=if qas l=0 then [] else Lib.decDigits (qas l):=by
 induction l with
 |nil=>rfl
 |cons c t ih=>
  obtain⟨h1,h2,h3⟩:=qbZ h
  by_cases hc:c=48
  ·subst hc;have e:qas (48::t)=qas t:=by rw[qaS];simp
   rw[e,←ih h3];rfl
  ·have hp:=qdi c t h hc;have:=Nat.pow_pos (n:=t.length) (show 0<10 by decide);rw[if_neg (by omega),←canon _ (c::t) rfl h (by simp) (.inl (by simpa using hc))];unfold Lib.trimLeftB;rw[List.dropWhile_cons,if_neg (by simpa using hc)]
theorem qwz (A B C D:Nat):A*D*C*B=D*B*C*A:=by ac_rfl
theorem qsQ (s:Bool) (r U:Nat) (hU:2^1074=U) (hr:r<INF): ∃L q,exD (sgw s+r)=(L,q)∧qaQ L∧q≤L.length∧(q≤1074∧q≤1075 - ex r)∧qas L*U=V r*10^q:=by
 replace hU:=Lh hU;have hI:INF=9218868437227405312:=rfl
 have hw:(sgw s+r)/4503599627370496%2048=r/4503599627370496∧(sgw s+r)%4503599627370496=r%4503599627370496:=by
  cases s<;>simp only[sgw,Bool.false_eq_true,if_false,if_true]<;>omega
 have hE:exE (sgw s+r)=ex r:=by
  unfold exE ex;rw[hw.1]
  by_cases h:r<4503599627370496
  ·rw[if_pos h,if_pos (by omega)]
  ·rw[if_neg h,if_neg (by omega)]
 have hF:exF (sgw s+r)=fr r:=by
  unfold exF fr;rw[hw.1,hw.2]
  by_cases h:r<4503599627370496
  ·rw[if_pos h,if_pos (by omega),Nat.mod_eq_of_lt h]
  ·rw[if_neg h,if_neg (by omega)]
 have he1:1≤ex r:=by
  unfold ex;split<;>omega
 have hV:V r=fr r*2^(ex r - 1):=rfl;unfold exD;rw[hE,hF,hV];obtain⟨a1,a2⟩:=qoW (ex r - 1075) (Lib.decDigits (fr r)) (qdo _);rw[qcZ] at a1
 by_cases h0:0<fr r
 ·rw[if_pos h0];obtain⟨L,p,b1,b2,b3,b4,b5⟩:=qoX (1075 - ex r) _ 0 a2;rw[Nat.zero_add] at b1;have hp4:p≤1074:=Nat.le_trans b5 (by have:=he1;revert this;generalize ex r=E;intro this;omega);refine⟨L,p,b1,b2,b4▸Nat.le_add_left _ _,⟨hp4,b5⟩,?_⟩;rw[a1] at b3
  have e1:U*2^(ex r - 1075)=2^(1075 - ex r)*2^(ex r - 1):=by
   have q1:=Nat.pow_add 2 1074 (ex r - 1075);rw[hU.out] at q1;rw[←q1,←Nat.pow_add 2 (1075 - ex r) (ex r - 1)];exact congrArg (2^ ·) (by omega)
  have hz:0<2^(ex r - 1075):=Nat.two_pow_pos _;apply Nat.eq_of_mul_eq_mul_right hz;rw[Nat.mul_assoc,e1,←Nat.mul_assoc,b3];generalize 2^(ex r - 1075)=A;generalize 2^(ex r - 1)=B;generalize 10^p=C;generalize fr r=D;exact qwz A B C D
 ·have hf0:fr r=0:=by omega
  rw[if_neg h0];exact⟨_,0,rfl,a2,Nat.zero_le _,⟨Nat.zero_le _,Nat.zero_le _⟩,by rw[a1,hf0,Nat.mul_zero,Nat.zero_mul,Nat.zero_mul,Nat.zero_mul]⟩
end Go.Proofs.YtdeimnnpcfncpaaGreatDoor
end
