/- Parts of the proof: F21 X1 X2 W1 KB F25 KM. -/
import Derived.Carry
import Derived.Test.YtdeimnnpcfncpaaGreatDoorRows
import Derived.ProofKit
import Derived.LaidMore
import Derived.OpenShut
import Derived.Lib.LaidTab
import Derived.Lib.LaidU8
import Derived.Stop.LaidErr
import Derived.MakeChecks
import Derived.HandedShaped
import Derived.Lay
import Derived.Shelf.Vars
import Derived.Test.YtdeimnnpcfncpaaGreatDoorCB15
import Derived.Test.YtdeimnnpcfncpaaGreatDoorCB16
set_option linter.unusedVariables false
set_option linter.unusedSimpArgs false
set_option maxRecDepth 100000
set_option maxHeartbeats 64000000
section
namespace Go.Proofs.YtdeimnnpcfncpaaGreatDoor
open Go
def okB (c:UInt8):Bool:=isD c||c==46||c==101||c==69||c==43||c==45
theorem qfi {c:UInt8} (h:isD c=true):c≠46:=fun e=>by subst e;exact absurd h (by decide)
theorem qb2 (l:List UInt8) (h: ∀c∈l,isD c=true):l.count 46=0:=List.count_eq_zero.2 (fun hm=>qfi (h _ hm) rfl)
theorem qbS {c:UInt8} (h:isD c=true):okB c=true:=by unfold okB;rw[h];rfl
theorem qfz (A R:List UInt8) (hA: ∀c∈A,isD c=true) (hR: ∀c,R.head?=some c→isD c=false):qbr (A++R)=A.length:=by
 unfold qbr;rw[List.takeWhile_append_of_pos hA]
 cases R with
 |nil=>simp
 |cons c t=>rw[List.takeWhile_cons,hR c rfl];simp
theorem qot (A B R:List UInt8) (hA: ∀c∈A,isD c=true) (hB: ∀c∈B,isD c=true) (hR: ∀c,R.head?=some c→isD c=false):qek (A++46::(B++R))=(A.length+B.length,R):=by
 have h1:=qfz A (46::(B++R)) hA (fun c hc=>by cases hc;rfl);have h2:=qfz B R hB hR;unfold qek;dsimp only;rw[h1,List.drop_left];dsimp only;rw[if_pos rfl,h2,List.drop_left]
end Go.Proofs.YtdeimnnpcfncpaaGreatDoor
end
section
namespace Go.Proofs.YtdeimnnpcfncpaaGreatDoor
open Go Go.RowKit
def dgT (c:UInt8):UInt8:=UInt8.ofNat (48+c.toNat%10)
def tx (l:List UInt8) (i:Nat):List UInt8:=if i=0 then [48] else (l.take i).map dgT
def BS (l:List UInt8):ByteArray:=⟨l.toArray⟩
theorem qad (l:List UInt8):(BS l).size=l.length:=by unfold BS;show l.toArray.size=_;simp
theorem qa0 (a b:List UInt8):BS a++BS b=BS (a++b):=by apply qbq;simp[BS]
theorem ql6 {P:Program} {w w':World} {n:String} {k:IntKind} {zs:List Int} (h:Lib.TabIs P w n k zs) (hb:Below w.heap.size w w'):Lib.TabIs P w' n k zs:=by
 unfold Lib.TabIs World.var? at*
 cases hg:P.globalNamed n with
 |none=>rw[hg] at h;cases h
 |some g=>
  rw[hg] at h;simp only[Option.bind_some] at h⊢
  have hlt:g<w.heap.size:=by
   rcases Nat.lt_or_ge g w.heap.size with h'|h'
   ·exact h'
   ·rw[Array.getElem?_eq_none h'] at h;cases h
  rw[hb.block g hlt];exact h
structure qrL (w:World):Prop where
 p:qjs w
 tab:Lib.TabIs Tryz.prog w "internal/strconv.uint64pow10" .u64 Lib.pow10Tab
theorem qrL.on {w W:World} (h:qrL w) (hb:Below w.heap.size w W):qrL W:=⟨h.p.on hb,ql6 h.tab hb⟩
structure ql3 (w:World):Prop where
 a:qrL w
 m: ∃m:Int,w.cell? ⟨0,0,none⟩=some (.int .i64 m)
theorem ql3.on {w W:World} (h:ql3 w) (hb:Below w.heap.size w W):ql3 W:=by
 refine⟨h.a.on hb,?_⟩;obtain⟨m,hm⟩:=h.m;exact⟨m,by rw[hb.cell (p:=⟨0,0,none⟩) (by have:=h.a.p.f.big;show 0<_;omega)];exact hm⟩
end Go.Proofs.YtdeimnnpcfncpaaGreatDoor
end
section
namespace Go.Proofs.YtdeimnnpcfncpaaGreatDoor
open Go Ieee
theorem qkG (l:List UInt8) (h:qaU l):qay l<10^l.length:=by
 induction l with
 |nil=>exact Nat.one_pos
 |cons c t ih=>
  have hc:=h c (List.mem_cons_self ..);have:=ih (fun x hx=>h x (List.mem_cons_of_mem _ hx));rw[qaX,List.length_cons,Nat.pow_succ];have h9:(c.toNat - 48)*10^t.length≤9*10^t.length:=Nat.mul_le_mul_right _ (by omega);omega
theorem qbI {c:UInt8} {t:List UInt8} (h:qaU (c::t)):48≤c.toNat∧c.toNat≤57∧qaU t:=⟨(h c (List.mem_cons_self ..)).1,(h c (List.mem_cons_self ..)).2,fun x hx=>h x (List.mem_cons_of_mem _ hx)⟩
theorem qdz {a b:List UInt8} (h:qaU (a++b)):qaU a∧qaU b:=⟨fun x hx=>h x (List.mem_append_left _ hx),fun x hx=>h x (List.mem_append_right _ hx)⟩
theorem qtI {c:UInt8} (h:c.toNat=48):c=48:=UInt8.toNat_inj.1 h
theorem qcI (c:UInt8) (t:List UInt8) (h:qaU (c::t)) (hc:c≠48):10^t.length≤qay (c::t):=by
 obtain⟨h1,h2,h3⟩:=qbI h;rw[qaX];have h4:c.toNat≠48:=fun e=>hc (qtI e)
 have:1*10^t.length≤(c.toNat - 48)*10^t.length:=Nat.mul_le_mul_right _ (by omega);omega
theorem canon (n:Nat): ∀l:List UInt8,l.length=n→qaU l→l≠[]→(l.head?≠some 48∨l.length=1)→l=Lib.decDigits (qay l):=by
 induction n with
 |zero=>intro l h _ h0;exact absurd (List.eq_nil_of_length_eq_zero h) h0
 |succ n ih=>
  intro l hl hd h0 hh;obtain⟨a,x,rfl⟩: ∃a x,l=a++[x]:=⟨l.dropLast,l.getLast h0,(List.dropLast_concat_getLast h0).symm⟩;obtain⟨ha,hx⟩:=qdz hd;have hx1:=hx x (List.mem_singleton.2 rfl);rw[List.length_append,List.length_singleton] at hl
  by_cases hn:a=[]
  ·subst hn;rw[List.nil_append,qcl,Lib.decDigits,dif_pos (by omega)];rw[show 48+(x.toNat - 48)=x.toNat by omega,UInt8.ofNat_toNat]
  ·have hha:a.head?≠some 48:=by
    rcases hh with hh|hh
    ·intro e;apply hh
     cases a with
     |nil=>exact absurd rfl hn
     |cons c t=>exact e
    ·rw[List.length_append,List.length_singleton] at hh;have:=List.length_pos_iff.2 hn;omega
   have hi:=ih a (by omega) ha hn (.inl hha)
   have hp:1≤qay a:=by
    cases a with
    |nil=>exact absurd rfl hn
    |cons c t=>
     have:=qcI c t ha (fun e=>hha (by rw[e];rfl));have:=Nat.pow_pos (n:=t.length) (show 0<10 by decide);omega
   rw[qbg,qcl,List.length_singleton,Nat.pow_one,Lib.decDigits,dif_neg (by omega)];rw[show(qay a*10+(x.toNat - 48))/10=qay a by omega,show 48+(qay a*10+(x.toNat - 48))%10=x.toNat by omega,←hi,UInt8.ofNat_toNat]
theorem qjv (l:List UInt8) (h:qaU l):Lib.trimLeftB l 48=if qay l=0 then [] else Lib.decDigits (qay l):=by
 induction l with
 |nil=>rfl
 |cons c t ih=>
  obtain⟨h1,h2,h3⟩:=qbI h
  by_cases hc:c=48
  ·subst hc;have e:qay (48::t)=qay t:=by rw[qaX];simp
   rw[e,←ih h3];rfl
  ·have hp:=qcI c t h hc;have:=Nat.pow_pos (n:=t.length) (show 0<10 by decide);rw[if_neg (by omega),←canon _ (c::t) rfl h (by simp) (.inl (by simpa using hc))];unfold Lib.trimLeftB;rw[List.dropWhile_cons,if_neg (by simpa using hc)]
theorem qtz (A B C D:Nat):A*D*C*B=D*B*C*A:=by ac_rfl
theorem qpM (s:Bool) (r U:Nat) (hU:2^1074=U) (hr:r<INF): ∃L q,exD (sgw s+r)=(L,q)∧qaU L∧q≤L.length∧(q≤1074∧q≤1075 - ex r)∧qay L*U=V r*10^q:=by
 replace hU:=Lh hU;have hI:INF=9218868437227405312:=rfl
 have hw:(sgw s+r)/4503599627370496%2048=r/4503599627370496∧(sgw s+r)%4503599627370496=r%4503599627370496:=by
  cases s<;>simp only[sgw,Bool.false_eq_true,if_false,if_true]<;>omega
 have hE:exE (sgw s+r)=ex r:=by
  unfold exE ex;rw[hw.1]
  by_cases h:r<4503599627370496
  ·rw[if_pos h,if_pos (by omega)]
  ·rw[if_neg h,if_neg (by omega)]
 have hF:exF (sgw s+r)=fr r:=by
  unfold exF fr;rw[hw.1,hw.2]
  by_cases h:r<4503599627370496
  ·rw[if_pos h,if_pos (by omega),Nat.mod_eq_of_lt h]
  ·rw[if_neg h,if_neg (by omega)]
 have he1:1≤ex r:=by
  unfold ex;split<;>omega
 have hV:V r=fr r*2^(ex r - 1):=rfl;unfold exD;rw[hE,hF,hV];obtain⟨a1,a2⟩:=qmO (ex r - 1075) (Lib.decDigits (fr r)) (qbT _);rw[qcz] at a1
 by_cases h0:0<fr r
 ·rw[if_pos h0];obtain⟨L,p,b1,b2,b3,b4,b5⟩:=qmL (1075 - ex r) _ 0 a2;rw[Nat.zero_add] at b1;have hp4:p≤1074:=Nat.le_trans b5 (by have:=he1;revert this;generalize ex r=E;intro this;omega);refine⟨L,p,b1,b2,b4▸Nat.le_add_left _ _,⟨hp4,b5⟩,?_⟩;rw[a1] at b3
  have e1:U*2^(ex r - 1075)=2^(1075 - ex r)*2^(ex r - 1):=by
   have q1:=Nat.pow_add 2 1074 (ex r - 1075);rw[hU.out] at q1;rw[←q1,←Nat.pow_add 2 (1075 - ex r) (ex r - 1)];exact congrArg (2^ ·) (by omega)
  have hz:0<2^(ex r - 1075):=Nat.two_pow_pos _;apply Nat.eq_of_mul_eq_mul_right hz;rw[Nat.mul_assoc,e1,←Nat.mul_assoc,b3];generalize 2^(ex r - 1075)=A;generalize 2^(ex r - 1)=B;generalize 10^p=C;generalize fr r=D;exact qtz A B C D
 ·have hf0:fr r=0:=by omega
  rw[if_neg h0];exact⟨_,0,rfl,a2,Nat.zero_le _,⟨Nat.zero_le _,Nat.zero_le _⟩,by rw[a1,hf0,Nat.mul_zero,Nat.zero_mul,Nat.zero_mul,Nat.zero_mul]⟩
end Go.Proofs.YtdeimnnpcfncpaaGreatDoor
end
section
namespace Go.Proofs.YtdeimnnpcfncpaaGreatDoor
open Go Go.RowKit
theorem qsy {a:Int} (h:(Lit.int .u8 a).wf=true): ∃n:Nat,a=(n:Int)∧n<256:=by
 simp[Lit.wf,IntKind.min,IntKind.max,IntKind.signed,IntKind.bits] at h;exact⟨a.toNat,by omega,by omega⟩
end Go.Proofs.YtdeimnnpcfncpaaGreatDoor
end
