/- Parts of the proof: GD Y1 Y4. -/
import Derived.Test.YtdeimnnpcfncpaaGreatDoorCX25
set_option linter.unusedVariables false
set_option linter.unusedSimpArgs false
set_option maxRecDepth 100000
set_option maxHeartbeats 64000000
section
namespace Go.Proofs.YtdeimnnpcfncpaaGreatDoor
open Go Go.RowKit
structure qpe (m:MS) (V:Nat):Prop where
 lo:m.mant*10^(m.nd - 19)≤V
 hi:V<(m.mant+1)*10^(m.nd - 19)
 ex:m.trunc=false→V=m.mant*10^(m.nd - 19)
 z:m.nd=0→m.mant=0
 p:0<m.nd→0<m.mant
 n:m.trunc=true→19<m.nd
 b:V<10^m.nd
 l:0<m.nd→10^(m.nd - 1)≤V
theorem qpl {m:MS} {V:Nat} (h:qpe m V) (c:UInt8) (hc:isD c=true∨c=46):qpe (qa1 m c) (if c=46 then V else V*10+(c.toNat - 48)):=by
 obtain⟨lo,hi,ex,z,p,n,b,l⟩:=h;obtain⟨dot,seen,nd,mant,dp,tr⟩:=m;dsimp only at*
 by_cases g:c=46
 ·subst g;rw[if_pos rfl];show qpe ⟨true,seen,nd,mant,nd,tr⟩ V;exact⟨lo,hi,ex,z,p,n,b,l⟩
 ·rw[if_neg g];have hd:=(qaA c).1 (hc.resolve_right g)
  by_cases h0:nd=0∧c=48
  ·obtain⟨h0,rfl⟩:=h0;subst h0;rw[qdg _ _ _ _ _ _ rfl];have:=z rfl;subst this;have hV:V=0:=by rw[Nat.pow_zero] at b;omega
   subst hV;exact⟨lo,hi,fun h=>ex h,z,p,n,(by show(0:Nat)<1;decide),l⟩
  ·by_cases h19:nd<19
   ·rw[qen _ _ _ _ _ _ _ g (fun x=>h0 ⟨x.2,x.1⟩) h19];rw[show nd - 19=0 by omega,Nat.pow_zero,Nat.mul_one] at lo hi;have hV:V=mant:=by omega
    subst hV
    have h48:nd=0→48<c.toNat:=fun e=>by
     have h1:c≠48:=fun q=>h0 ⟨e,q⟩
     have:c.toNat≠48:=fun q=>h1 (UInt8.toNat_inj.1 q)
     omega
    have e0:nd+1 - 19=0:=by omega
    refine⟨?_,?_,fun _=>?_,fun h=>?_,fun _=>?_,fun h=>?_,?_,fun _=>?_⟩
    ·show(V*10+(c.toNat - 48))*10^(nd+1 - 19)≤_;rw[e0,Nat.pow_zero];omega
    ·show _<(V*10+(c.toNat - 48)+1)*10^(nd+1 - 19);rw[e0,Nat.pow_zero];omega
    ·show _=(V*10+(c.toNat - 48))*10^(nd+1 - 19);rw[e0,Nat.pow_zero];omega
    ·exact absurd h (Nat.succ_ne_zero nd)
    ·show 0<V*10+(c.toNat - 48);rcases Nat.eq_zero_or_pos nd with e|e
     ·have:=h48 e;omega
     ·have:=p e;omega
    ·have:=n h;omega
    ·show _<10^(nd+1);rw[Nat.pow_succ];omega
    ·show 10^nd≤_;rcases Nat.eq_zero_or_pos nd with e|e
     ·have:=h48 e;rw[e,Nat.pow_zero];omega
     ·have:=l e;rw[show nd=(nd - 1)+1 by omega,Nat.pow_succ];omega
   ·rw[qdk _ _ _ _ _ _ _ g (by omega)];obtain⟨k,hk⟩: ∃k,nd=19+k:=⟨nd - 19,by omega⟩;subst hk;rw[Nat.add_sub_cancel_left] at lo hi ex;have e1:19+k+1 - 19=k+1:=by omega
    refine⟨?_,?_,fun h=>?_,fun h=>?_,fun _=>?_,fun h=>?_,?_,fun _=>?_⟩
    ·show mant*10^(19+k+1 - 19)≤_;rw[e1,Nat.pow_succ,←Nat.mul_assoc];omega
    ·show _<(mant+1)*10^(19+k+1 - 19);rw[e1,Nat.pow_succ,←Nat.mul_assoc];omega
    ·show _=mant*10^(19+k+1 - 19);have h':(tr||(c !=48))=false:=h;rw[Bool.or_eq_false_iff] at h';have h2:=ex h'.1;have h3:c=48:=by simpa using h'.2
     subst h3;rw[e1,Nat.pow_succ,←Nat.mul_assoc,h2];rfl
    ·exact absurd h (Nat.succ_ne_zero _)
    ·exact p (by omega)
    ·show 19<19+k+1;omega
    ·show _<10^(19+k+1);rw[Nat.pow_succ];omega
    ·show 10^(19+k)≤_;have:=l (by omega);rw[show 19+k=(19+k - 1)+1 by omega,Nat.pow_succ];omega
theorem qsT {s:ByteArray} {a e:Nat} (H:qjh s a e): ∀k,a+k≤e→qpe (mat s a (a+k)) (mv s a (a+k)):=by
 have hle:=H.le;intro k
 induction k with
 |zero=>
  intro _;rw[Nat.add_zero,qiA,qr9];exact⟨by decide,by decide,fun _=>rfl,fun _=>rfl,fun h=>absurd h (by decide),fun h=>(by cases h),by decide,fun h=>absurd h (by decide)⟩
 |succ k ih=>
  intro hk;rw[show a+(k+1)=(a+k)+1 by omega,qdH s a (a+k) (by omega) (by omega),qkf s a (a+k) (by omega) (by omega)];refine qpl (ih (by omega)) _ ?_;rcases H.ch (a+k) (by omega) (by omega)with h|h
  ·exact .inl h
  ·exact .inr h.1
def xpt (m:MS) (E:Int):Int:=(if m.dot then m.dp else (m.nd:Int))+E - m.nd
theorem qqr {s:ByteArray} {a e:Nat} (H:qjh s a e):qpe (mat s a e) (mv s a e):=by
 have:=qsT H (e - a) (by have:=H.lt;omega);rwa[show a+(e - a)=e by have:=H.lt;omega] at this
theorem qoT {m:MS} {V:Nat} (h:qpe m V) (h0:0<m.nd) (E:Int):xpt m E=qaD m E - ((m.nd - 19:Nat):Int):=by
 unfold xpt qaD;have:=h.p h0;rw[if_neg (show¬m.mant=0 by omega)];generalize (if m.dot=true then m.dp else (m.nd:Int))=D;omega
theorem qhP {m:MS} {V:Nat} (h:qpe m V) (hm:m.mant<10000000000000000000) (E:Int) (ht:m.trunc=false):qbn V (xpt m E) (v64 m.mant (qaD m E)):=by
 rcases Nat.eq_zero_or_pos m.nd with h0|h0
 ·have h1:=h.z h0;have h2:=h.b;rw[h0,Nat.pow_zero] at h2;have hV:V=0:=by omega
  rw[hV,h1];have:v64 0 (qaD m E)=0:=by unfold v64;rw[if_pos rfl]
  rw[this];exact qhj _
 ·have n1:=qo8 m.mant (qaD m E) hm;rw[qoT h h0 E];refine qri (y:=qaD m E - ((m.nd - 19:Nat):Int)) (by omega) (Int.le_refl _) ?_ n1;rw[Int.sub_self,show(qaD m E - (qaD m E - ((m.nd - 19:Nat):Int))).toNat=m.nd - 19 by omega,h.ex ht];show _=_*1;omega
theorem qlY {m:MS} {V:Nat} (h:qpe m V) (hm:m.mant<10000000000000000000) (E:Int) (ht:m.trunc=true) (hsm: -345≤qaD m E→qaD m E≤310→qb3 (m.mant+1) (qaD m E+348).toNat=qb3 m.mant (qaD m E+348).toNat):qbn V (xpt m E) (v64 m.mant (qaD m E)):=by
 have h0:=h.n ht;rw[qoT h (by omega) E];exact qsm (h.p (by omega)) hm h.lo h.hi hsm
theorem qmI (s:ByteArray) (a e:Nat) (ng:Bool) (E:Int) (H:qjh s a e) (S:Sgn s a ng) (T:Tail s e E) (ht:(mat s a e).trunc=true) (hsm: -345≤qaD (mat s a e) E→qaD (mat s a e) E≤310→qb3 ((mat s a e).mant+1) (qaD (mat s a e) E+348).toNat=qb3 (mat s a e).mant (qaD (mat s a e) E+348).toNat) (w:World) (hG:qfl w):
 Calls Tryz.prog 263 #[.string s] w (AtRet ng (v64 (mat s a e).mant (qaD (mat s a e) E)) s.size w):=by
 have hz:=H.sz;have hl:=H.lt;have hle:=H.le;have hrf:=ql0 s a e ng E H S T w;unfold qjc at hrf;rw[ht] at hrf;have hsp:=Lh (qlk s a ng (by omega) hz (by rcases S with h|h;exact .inl h.1;exact .inr h) (qet H) w);have hm:=(qbV H e (by omega) (Nat.le_refl _)).2.1;obtain⟨d,hd⟩: ∃d,d=(mat s a e).mant:=⟨_,rfl⟩;obtain⟨p,hp⟩: ∃p,p=qaD (mat s a e) E:=⟨_,rfl⟩;rw[←hd] at hm;rw[←hd,←hp] at hrf hsm⊢;replace hrf:=Lh hrf;obtain⟨b,hb1,hb2⟩:=qfY ng;obtain⟨o1,o2⟩:=qqU ng;have hsg:=qkU ng;have hpg:=fun (W:World) (hW:qfl W) (h1: -348≤p) (h2:p≤347)=>qgd (d+1) (p+348).toNat (sgw ng) (by omega) (by omega) (by omega) hsg W hW.tab (by have:=hW.big;omega)
 have hpf:=fun (h0:0<d) (h1: -348≤p) (h2:p≤347)=>qgd d (p+348).toNat (sgw ng) h0 (by omega) (by omega) hsg w hG.tab (by have:=hG.big;omega)
 obtain⟨sg,hsgd⟩: ∃sg,sg=sgw ng:=⟨_,rfl⟩;rw[←hsgd] at hb1 o1 o2 hpf hpg hsg;have f1:=qqM (sg:Int) w;have f2:=qqM ((sg+INF:Nat):Int) w;rw[Int.toNat_natCast] at f1 f2;have opt:=hG.opt;have hAt: ∀v b W,Below w.heap.size w W→v64 d p=v→AtRet ng (v64 d p) s.size w (.returned (.tuple #[.float .f64 (sg+v),.int .i64 s.size,qf2 b])) W:=fun v b W hB hv=>by subst hv;rw[hsgd];exact⟨⟨b,rfl⟩,hB⟩
 obtain⟨hi,hhi⟩: ∃hi,hi=sg+INF:=⟨_,rfl⟩;rw[←hhi] at o2 f2;replace hsgd:=Lh hsgd;replace hb2:=Lh hb2;replace hAt:=Lh hAt;have hGh:=Lh hG;clear H S T ht hd hp hG hl hle
 by_cases g0:d=0
 ·have u0:((d:Int)==0)=true:=by simp[g0]
  have hv:Hid (AtRet ng (v64 d p) s.size w (.returned (.tuple #[.float .f64 sg,.int .i64 s.size,.nilIface])) w):=hAt.out 0 false w (Below.refl _ _) (by unfold v64;rw[if_pos g0]);clear hpf hpg hsm hAt g0 hhi;go_enter Tryz.func263,Tryz.ntmps263;go_wp2_with fail;refine hsp.out.mono ?_;rintro x w1 ⟨rfl,rfl⟩;go_wp2_with fail;refine hrf.out.mono ?_;rintro x w1 ⟨rfl,rfl⟩;go_wp2_with fail;refine(hb2.out _).mono ?_;rintro x w1 ⟨rfl,rfl⟩;go_wp2_with fail;go_ret3;exact hv.out
 ·have u0:((d:Int)==0)=false:=by simp[g0]
  have d0:0<d:=by omega
  by_cases g1:310<p
  ·have u1:decide ((310:Int)<p)=true:=dT g1;have hv:Hid (AtRet ng (v64 d p) s.size w (.returned (.tuple #[.float .f64 hi,.int .i64 s.size,.iface 287 (.int .i64 1)])) w):=by rw[hhi];exact hAt.out INF true w (Below.refl _ _) (by unfold v64;rw[if_neg g0,if_pos g1])
   clear hhi;clear hpf hpg hsm hAt g0;go_enter Tryz.func263,Tryz.ntmps263;go_wp2_with fail;refine hsp.out.mono ?_;rintro x w1 ⟨rfl,rfl⟩;go_wp2_with fail;refine hrf.out.mono ?_;rintro x w1 ⟨rfl,rfl⟩;go_wp2_with fail;refine(hb2.out _).mono ?_;rintro x w1 ⟨rfl,rfl⟩;go_wp2_with fail;go_ret3;exact hv.out
  ·have u1:decide ((310:Int)<p)=false:=dF g1
   by_cases g2:p< -345
   ·have u2:decide (p<(-345:Int))=true:=dT g2;have hv:Hid (AtRet ng (v64 d p) s.size w (.returned (.tuple #[.float .f64 sg,.int .i64 s.size,.nilIface])) w):=hAt.out 0 false w (Below.refl _ _) (by unfold v64;rw[if_neg g0,if_neg g1,if_pos g2]);clear hpf hpg hsm hAt g0 g1 g2 hhi;go_enter Tryz.func263,Tryz.ntmps263;go_wp2_with fail;refine hsp.out.mono ?_;rintro x w1 ⟨rfl,rfl⟩;go_wp2_with fail;refine hrf.out.mono ?_;rintro x w1 ⟨rfl,rfl⟩;go_wp2_with fail;refine(hb2.out _).mono ?_;rintro x w1 ⟨rfl,rfl⟩;go_wp2_with fail;go_ret3;exact hv.out
   ·have u2:decide (p<(-345:Int))=false:=dF g2;have hv:=fun b W hB=>hAt.out (qb3 d (p+348).toNat) b W hB (by unfold v64;rw[if_neg g0,if_neg g1,if_neg g2])
    have hpf':=Lh (hpf d0 (by omega) (by omega));rw[show((p+348).toNat:Int) - 348=p by omega] at hpf';have hpg':=fun W hW=>hpg W hW (by omega) (by omega)
    rw[show((p+348).toNat:Int) - 348=p by omega,hsm (by omega) (by omega)] at hpg';obtain⟨F,hF⟩: ∃F,F=qb3 d (p+348).toNat:=⟨_,rfl⟩;have hFI:F≤INF:=by rw[hF];exact(qem d (p+348).toNat d0 (by omega) (by omega)).1
    rw[←hF] at hv hpf' hpg';obtain⟨er,her⟩: ∃er,er=qf2 (decide (F=INF)):=⟨_,rfl⟩;have hv1: ∀W,Below w.heap.size w W→AtRet ng (v64 d p) s.size w (.returned (.tuple #[.float .f64 (sg+F),.int .i64 s.size,er])) W:=fun W hB=>by rw[her];exact hv _ W hB
    unfold qng at hpf' hpg';rw[←her] at hpf' hpg';obtain⟨Q,hQ⟩: ∃Q,Q=sg+F:=⟨_,rfl⟩;rw[←hQ] at hv1 hpf' hpg'
    have hQQ:(FloatKind.f64.format.order Q Q==some .eq)=true:=by
     have hI:INF=9218868437227405312:=rfl;have hs2:sg=0∨sg=9223372036854775808:=by rw[hsgd.out];cases ng<;>simp[sgw]
     have h1:=qnF Q (by rw[hQ];omega)
     have h2:qfL Q=false:=by
      unfold qfL;rw[decide_eq_false_iff_not,hQ];rcases hs2 with h|h<;>omega
     rw[h2] at h1;simpa using h1
    replace hv1:=Lh hv1;replace hpg':=Lh (fun W hW=>hpg' W hW);clear hpf hpg hsm hAt g0 g1 g2 her hF hv hhi hQ hFI;go_enter Tryz.func263,Tryz.ntmps263;go_wp2_with fail;refine hsp.out.mono ?_;rintro x w1 ⟨rfl,rfl⟩;go_wp2_with fail;refine hrf.out.mono ?_;rintro x w1 ⟨rfl,rfl⟩;go_wp2_with fail;refine(hb2.out _).mono ?_;rintro x w1 ⟨rfl,rfl⟩;go_wp2_with fail;refine hpf'.out.mono ?_;rintro x w1 ⟨rfl,hB⟩;replace hB:=Lh hB;go_wp2_with fail;refine(hpg'.out w1 (hGh.out.on hB.out)).mono ?_;rintro x w2 ⟨rfl,hB2⟩;replace hB:=Lh (hB.out.trans (hB2.mono hB.out.size));clear hB2;go_wp2_with fail;go_ret3;exact hv1.out _ hB.out
end Go.Proofs.YtdeimnnpcfncpaaGreatDoor
end
section
namespace Go.Proofs.YtdeimnnpcfncpaaGreatDoor
open Go Go.RowKit Ieee
theorem qja (a:Nat) (ha:a<18446744073709551616) (hn:qfL a=false): ∃s r,a=sgw s+r∧r≤INF:=by
 rw[qtX] at hn
 by_cases g:a<9223372036854775808
 ·exact⟨false,a,by simp[sgw],by omega⟩
 ·exact⟨true,a - 9223372036854775808,by simp only[sgw,if_true];omega,by omega⟩
theorem qje:qao (sgw false+INF)=[43,73,110,102]:=by
 unfold qao;rw[show kindN (sgw false+INF)=3 by decide+kernel];rfl
theorem qiP:qao (sgw true+INF)=[45,73,110,102]:=by
 unfold qao;rw[show kindN (sgw true+INF)=3 by decide+kernel];rfl
end Go.Proofs.YtdeimnnpcfncpaaGreatDoor
end
