/- Parts of the proof: GD. -/
import Derived.Test.YtdeimnnpcfncpaaGreatDoorCT31
set_option linter.unusedVariables false
set_option linter.unusedSimpArgs false
set_option maxRecDepth 100000
set_option maxHeartbeats 64000000
namespace Go.Proofs.YtdeimnnpcfncpaaGreatDoor
open Go Go.RowKit
structure qmO (m:MS) (V:Nat):Prop where
 lo:m.mant*10^(m.nd - 19)≤V
 hi:V<(m.mant+1)*10^(m.nd - 19)
 ex:m.trunc=false→V=m.mant*10^(m.nd - 19)
 z:m.nd=0→m.mant=0
 p:0<m.nd→0<m.mant
 n:m.trunc=true→19<m.nd
 b:V<10^m.nd
 l:0<m.nd→10^(m.nd - 1)≤V
theorem qnY {m:MS} {V:Nat} (h:qmO m V) (c:UInt8) (hc:isD c=true∨c=46):qmO (qaU m c) (if c=46 then V else V*10+(c.toNat - 48)):=by
 obtain⟨lo,hi,ex,z,p,n,b,l⟩:=h;obtain⟨dot,seen,nd,mant,dp,tr⟩:=m;dsimp only at*
 by_cases g:c=46
 ·subst g;rw[if_pos rfl];show qmO ⟨true,seen,nd,mant,nd,tr⟩ V;exact⟨lo,hi,ex,z,p,n,b,l⟩
 ·rw[if_neg g];have hd:=(qaB c).1 (hc.resolve_right g)
  by_cases h0:nd=0∧c=48
  ·obtain⟨h0,rfl⟩:=h0;subst h0;rw[qcQ _ _ _ _ _ _ rfl];have:=z rfl;subst this;have hV:V=0:=by rw[Nat.pow_zero] at b;omega
   subst hV;exact⟨lo,hi,fun h=>ex h,z,p,n,(by show(0:Nat)<1;decide),l⟩
  ·by_cases h19:nd<19
   ·rw[qdk _ _ _ _ _ _ _ g (fun x=>h0 ⟨x.2,x.1⟩) h19];rw[show nd - 19=0 by omega,Nat.pow_zero,Nat.mul_one] at lo hi;have hV:V=mant:=by omega
    subst hV
    have h48:nd=0→48<c.toNat:=fun e=>by
     have h1:c≠48:=fun q=>h0 ⟨e,q⟩
     have:c.toNat≠48:=fun q=>h1 (UInt8.toNat_inj.1 q)
     omega
    have e0:nd+1 - 19=0:=by omega
    refine⟨?_,?_,fun _=>?_,fun h=>?_,fun _=>?_,fun h=>?_,?_,fun _=>?_⟩
    ·show(V*10+(c.toNat - 48))*10^(nd+1 - 19)≤_;rw[e0,Nat.pow_zero];omega
    ·show _<(V*10+(c.toNat - 48)+1)*10^(nd+1 - 19);rw[e0,Nat.pow_zero];omega
    ·show _=(V*10+(c.toNat - 48))*10^(nd+1 - 19);rw[e0,Nat.pow_zero];omega
    ·exact absurd h (Nat.succ_ne_zero nd)
    ·show 0<V*10+(c.toNat - 48);rcases Nat.eq_zero_or_pos nd with e|e
     ·have:=h48 e;omega
     ·have:=p e;omega
    ·have:=n h;omega
    ·show _<10^(nd+1);rw[Nat.pow_succ];omega
    ·show 10^nd≤_;rcases Nat.eq_zero_or_pos nd with e|e
     ·have:=h48 e;rw[e,Nat.pow_zero];omega
     ·have:=l e;rw[show nd=(nd - 1)+1 by omega,Nat.pow_succ];omega
   ·rw[qcB _ _ _ _ _ _ _ g (by omega)];obtain⟨k,hk⟩: ∃k,nd=19+k:=⟨nd - 19,by omega⟩;subst hk;rw[Nat.add_sub_cancel_left] at lo hi ex;have e1:19+k+1 - 19=k+1:=by omega
    refine⟨?_,?_,fun h=>?_,fun h=>?_,fun _=>?_,fun h=>?_,?_,fun _=>?_⟩
    ·show mant*10^(19+k+1 - 19)≤_;rw[e1,Nat.pow_succ,←Nat.mul_assoc];omega
    ·show _<(mant+1)*10^(19+k+1 - 19);rw[e1,Nat.pow_succ,←Nat.mul_assoc];omega
    ·show _=mant*10^(19+k+1 - 19);have h':(tr||(c !=48))=false:=h;rw[Bool.or_eq_false_iff] at h';have h2:=ex h'.1;have h3:c=48:=by simpa using h'.2
     subst h3;rw[e1,Nat.pow_succ,←Nat.mul_assoc,h2];rfl
    ·exact absurd h (Nat.succ_ne_zero _)
    ·exact p (by omega)
    ·show 19<19+k+1;omega
    ·show _<10^(19+k+1);rw[Nat.pow_succ];omega
    ·show 10^(19+k)≤_;have:=l (by omega);rw[show 19+k=(19+k - 1)+1 by omega,Nat.pow_succ];omega
theorem qqR {s:ByteArray} {a e:Nat} (H:qhV s a e): ∀k,a+k≤e→qmO (mat s a (a+k)) (mv s a (a+k)):=by
 have hle:=H.le;intro k
 induction k with
 |zero=>
  intro _;rw[Nat.add_zero,qhg,qq7];exact⟨by decide,by decide,fun _=>rfl,fun _=>rfl,fun h=>absurd h (by decide),fun h=>(by cases h),by decide,fun h=>absurd h (by decide)⟩
 |succ k ih=>
  intro hk;rw[show a+(k+1)=(a+k)+1 by omega,qdi s a (a+k) (by omega) (by omega),qiW s a (a+k) (by omega) (by omega)];refine qnY (ih (by omega)) _ ?_;rcases H.ch (a+k) (by omega) (by omega)with h|h
  ·exact .inl h
  ·exact .inr h.1
def xpt (m:MS) (E:Int):Int:=(if m.dot then m.dp else (m.nd:Int))+E - m.nd
theorem qo0 {s:ByteArray} {a e:Nat} (H:qhV s a e):qmO (mat s a e) (mv s a e):=by
 have:=qqR H (e - a) (by have:=H.lt;omega);rwa[show a+(e - a)=e by have:=H.lt;omega] at this
theorem qmG {m:MS} {V:Nat} (h:qmO m V) (h0:0<m.nd) (E:Int):xpt m E=qaw m E - ((m.nd - 19:Nat):Int):=by
 unfold xpt qaw;have:=h.p h0;rw[if_neg (show¬m.mant=0 by omega)];generalize (if m.dot=true then m.dp else (m.nd:Int))=D;omega
theorem qgY {m:MS} {V:Nat} (h:qmO m V) (hm:m.mant<10000000000000000000) (E:Int) (ht:m.trunc=false):qa5 V (xpt m E) (v64 m.mant (qaw m E)):=by
 rcases Nat.eq_zero_or_pos m.nd with h0|h0
 ·have h1:=h.z h0;have h2:=h.b;rw[h0,Nat.pow_zero] at h2;have hV:V=0:=by omega
  rw[hV,h1];have:v64 0 (qaw m E)=0:=by unfold v64;rw[if_pos rfl]
  rw[this];exact qgg _
 ·have n1:=qmP m.mant (qaw m E) hm;rw[qmG h h0 E];refine qoz (y:=qaw m E - ((m.nd - 19:Nat):Int)) (by omega) (Int.le_refl _) ?_ n1;rw[Int.sub_self,show(qaw m E - (qaw m E - ((m.nd - 19:Nat):Int))).toNat=m.nd - 19 by omega,h.ex ht];show _=_*1;omega
theorem qiE {m:MS} {V:Nat} (h:qmO m V) (hm:m.mant<10000000000000000000) (E:Int) (ht:m.trunc=true) (hsm: -345≤qaw m E→qaw m E≤310→qbJ (m.mant+1) (qaw m E+348).toNat=qbJ m.mant (qaw m E+348).toNat):qa5 V (xpt m E) (v64 m.mant (qaw m E)):=by
 have h0:=h.n ht;rw[qmG h (by omega) E];exact qpP (h.p (by omega)) hm h.lo h.hi hsm
end Go.Proofs.YtdeimnnpcfncpaaGreatDoor
