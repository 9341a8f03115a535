/- Parts of the proof: GD HT Y1 Y4 HU. -/
import Derived.Test.YtdeimnnpcfncpaaGreatDoorCR29
import Derived.Test.YtdeimnnpcfncpaaGreatDoorCR30
set_option linter.unusedVariables false
set_option linter.unusedSimpArgs false
set_option maxRecDepth 100000
set_option maxHeartbeats 64000000
section
namespace Go.Proofs.YtdeimnnpcfncpaaGreatDoor
open Go Go.RowKit
structure qqn (m:MS) (V:Nat):Prop where
 lo:m.mant*10^(m.nd - 19)≤V
 hi:V<(m.mant+1)*10^(m.nd - 19)
 ex:m.trunc=false→V=m.mant*10^(m.nd - 19)
 z:m.nd=0→m.mant=0
 p:0<m.nd→0<m.mant
 n:m.trunc=true→19<m.nd
 b:V<10^m.nd
 l:0<m.nd→10^(m.nd - 1)≤V
theorem qrp {m:MS} {V:Nat} (h:qqn m V) (c:UInt8) (hc:isD c=true∨c=46):qqn (qaC m c) (if c=46 then V else V*10+(c.toNat - 48)):=by
 obtain⟨lo,hi,ex,z,p,n,b,l⟩:=h;obtain⟨dot,seen,nd,mant,dp,tr⟩:=m;dsimp only at*
 by_cases g:c=46
 ·subst g;rw[if_pos rfl];show qqn ⟨true,seen,nd,mant,nd,tr⟩ V;exact⟨lo,hi,ex,z,p,n,b,l⟩
 ·rw[if_neg g];have hd:=(qaq c).1 (hc.resolve_right g)
  by_cases h0:nd=0∧c=48
  ·obtain⟨h0,rfl⟩:=h0;subst h0;rw[qdK _ _ _ _ _ _ rfl];have:=z rfl;subst this;have hV:V=0:=by rw[Nat.pow_zero] at b;omega
   subst hV;exact⟨lo,hi,fun h=>ex h,z,p,n,(by show(0:Nat)<1;decide),l⟩
  ·by_cases h19:nd<19
   ·rw[qe7 _ _ _ _ _ _ _ g (fun x=>h0 ⟨x.2,x.1⟩) h19];rw[show nd - 19=0 by omega,Nat.pow_zero,Nat.mul_one] at lo hi;have hV:V=mant:=by omega
    subst hV
    have h48:nd=0→48<c.toNat:=fun e=>by
     have h1:c≠48:=fun q=>h0 ⟨e,q⟩
     have:c.toNat≠48:=fun q=>h1 (UInt8.toNat_inj.1 q)
     omega
    have e0:nd+1 - 19=0:=by omega
    refine⟨?_,?_,fun _=>?_,fun h=>?_,fun _=>?_,fun h=>?_,?_,fun _=>?_⟩
    ·show(V*10+(c.toNat - 48))*10^(nd+1 - 19)≤_;rw[e0,Nat.pow_zero];omega
    ·show _<(V*10+(c.toNat - 48)+1)*10^(nd+1 - 19);rw[e0,Nat.pow_zero];omega
    ·show _=(V*10+(c.toNat - 48))*10^(nd+1 - 19);rw[e0,Nat.pow_zero];omega
    ·exact absurd h (Nat.succ_ne_zero nd)
    ·show 0<V*10+(c.toNat - 48);rcases Nat.eq_zero_or_pos nd with e|e
     ·have:=h48 e;omega
     ·have:=p e;omega
    ·have:=n h;omega
    ·show _<10^(nd+1);rw[Nat.pow_succ];omega
    ·show 10^nd≤_;rcases Nat.eq_zero_or_pos nd with e|e
     ·have:=h48 e;rw[e,Nat.pow_zero];omega
     ·have:=l e;rw[show nd=(nd - 1)+1 by omega,Nat.pow_succ];omega
   ·rw[qdM _ _ _ _ _ _ _ g (by omega)];obtain⟨k,hk⟩: ∃k,nd=19+k:=⟨nd - 19,by omega⟩;subst hk;rw[Nat.add_sub_cancel_left] at lo hi ex;have e1:19+k+1 - 19=k+1:=by omega
    refine⟨?_,?_,fun h=>?_,fun h=>?_,fun _=>?_,fun h=>?_,?_,fun _=>?_⟩
    ·show mant*10^(19+k+1 - 19)≤_;rw[e1,Nat.pow_succ,←Nat.mul_assoc];omega
    ·show _<(mant+1)*10^(19+k+1 - 19);rw[e1,Nat.pow_succ,←Nat.mul_assoc];omega
    ·show _=mant*10^(19+k+1 - 19);have h':(tr||(c !=48))=false:=h;rw[Bool.or_eq_false_iff] at h';have h2:=ex h'.1;have h3:c=48:=by simpa using h'.2
     subst h3;rw[e1,Nat.pow_succ,←Nat.mul_assoc,h2];rfl
    ·exact absurd h (Nat.succ_ne_zero _)
    ·exact p (by omega)
    ·show 19<19+k+1;omega
    ·show _<10^(19+k+1);rw[Nat.pow_succ];omega
    ·show 10^(19+k)≤_;have:=l (by omega);rw[show 19+k=(19+k - 1)+1 by omega,Nat.pow_succ];omega
theorem qt4 {s:ByteArray} {a e:Nat} (H:qjO s a e): ∀k,a+k≤e→qqn (mat s a (a+k)) (mv s a (a+k)):=by
 have hle:=H.le;intro k
 induction k with
 |zero=>
  intro _;rw[Nat.add_zero,qjb,qva];exact⟨by decide,by decide,fun _=>rfl,fun _=>rfl,fun h=>absurd h (by decide),fun h=>(by cases h),by decide,fun h=>absurd h (by decide)⟩
 |succ k ih=>
  intro hk;rw[show a+(k+1)=(a+k)+1 by omega,qel s a (a+k) (by omega) (by omega),qk4 s a (a+k) (by omega) (by omega)];refine qrp (ih (by omega)) _ ?_;rcases H.ch (a+k) (by omega) (by omega)with h|h
  ·exact .inl h
  ·exact .inr h.1
def xpt (m:MS) (E:Int):Int:=(if m.dot then m.dp else (m.nd:Int))+E - m.nd
theorem qsg {s:ByteArray} {a e:Nat} (H:qjO s a e):qqn (mat s a e) (mv s a e):=by
 have:=qt4 H (e - a) (by have:=H.lt;omega);rwa[show a+(e - a)=e by have:=H.lt;omega] at this
theorem qpY {m:MS} {V:Nat} (h:qqn m V) (h0:0<m.nd) (E:Int):xpt m E=qaG m E - ((m.nd - 19:Nat):Int):=by
 unfold xpt qaG;have:=h.p h0;rw[if_neg (show¬m.mant=0 by omega)];generalize (if m.dot=true then m.dp else (m.nd:Int))=D;omega
theorem qiO {m:MS} {V:Nat} (h:qqn m V) (hm:m.mant<10000000000000000000) (E:Int) (ht:m.trunc=false):qaW V (xpt m E) (v64 m.mant (qaG m E)):=by
 rcases Nat.eq_zero_or_pos m.nd with h0|h0
 ·have h1:=h.z h0;have h2:=h.b;rw[h0,Nat.pow_zero] at h2;have hV:V=0:=by omega
  rw[hV,h1];have:v64 0 (qaG m E)=0:=by unfold v64;rw[if_pos rfl]
  rw[this];exact qgb _
 ·have n1:=qpZ m.mant (qaG m E) hm;rw[qpY h h0 E];refine qs1 (y:=qaG m E - ((m.nd - 19:Nat):Int)) (by omega) (Int.le_refl _) ?_ n1;rw[Int.sub_self,show(qaG m E - (qaG m E - ((m.nd - 19:Nat):Int))).toNat=m.nd - 19 by omega,h.ex ht];show _=_*1;omega
theorem qkQ {m:MS} {V:Nat} (h:qqn m V) (hm:m.mant<10000000000000000000) (E:Int) (ht:m.trunc=true) (hsm: -345≤qaG m E→qaG m E≤310→qce (m.mant+1) (qaG m E+348).toNat=qce m.mant (qaG m E+348).toNat):qaW V (xpt m E) (v64 m.mant (qaG m E)):=by
 have h0:=h.n ht;rw[qpY h (by omega) E];exact quO (h.p (by omega)) hm h.lo h.hi hsm
theorem quG (D nd v r:Nat) (ng:Bool) (dp:Int) (w0 w:World) (h:qcl w D nd dp ng v) (hn:nd≤800) (hr:qaW v (dp - nd) r) (hG:qgu w0) (hb0:Below w0.heap.size w0 w) (hD:w0.heap.size≤D):
 Calls Tryz.prog 281 #[.pointer (some ⟨D,0,none⟩),.pointer (some ⟨11,0,none⟩)] w fun e w'=>(∃b,e= .returned (.tuple #[.int .u64 ((sgw ng+r:Nat):Int),.bool b]))∧Below w0.heap.size w0 w':=by
 obtain⟨g,h1,h2,h3,h4⟩:=h.ex;have hGw:=hG.on hb0;rcases Nat.eq_zero_or_pos nd with hz|hz
 ·subst hz;have hv:v=0:=h4.symm;have hr0:r=0:=qh7 hr (by rw[hv];exact qgb _);refine(qrJ D g dp ng false w h1 hGw).mono ?_;rintro e w' ⟨h5,h6⟩;rw[hr0];exact⟨h5,hb0.trans (h6.mono hb0.size)⟩
 ·have g0:=h3.resolve_left (by omega);have b1:10^(nd - 1)≤v:=by rw[←h4];exact qeD hz g0
  have b2:v<10^nd:=by rw[←h4];exact qfp nd h2
  by_cases k1:310<dp
  ·have hr0:r=INF:=qh7 hr (qi7 b1 (by omega));refine(qtt D g nd dp ng false w h1 hz k1 hGw).mono ?_;rintro e w' ⟨h5,h6⟩;rw[hr0];exact⟨h5,hb0.trans (h6.mono hb0.size)⟩
  ·by_cases k2:dp< -330
   ·have hr0:r=0:=qh7 hr (qeb b2 (by omega));refine(qn3 D g nd dp ng false w h1 hz k2 hGw).mono ?_;rintro e w' ⟨h5,h6⟩;rw[hr0];exact⟨h5,hb0.trans (h6.mono hb0.size)⟩
   ·obtain⟨E0,hE0⟩: ∃E0:Nat,E0=(dp+2000).toNat:=⟨_,rfl⟩;have hE1:(E0:Int) - 2000=dp:=by omega
    have hN:qbF w D (dec g nd E0) E0 ng false:=⟨g,nd,by rw[hE1];exact h1,hz,hn,h2,g0,by omega,rfl⟩;refine(qub D _ E0 ng w0 w hN (by omega) (by omega) hG hb0 hD).mono ?_;rintro e w' ⟨⟨r',b,rfl,h5⟩,h6⟩;have e1:E0=nd+(dp - nd+2000).toNat:=by omega
    rw[e1] at h5;have h7:=qu1 (by omega) h5;rw[h4] at h7;have:r'=r:=qh7 h7 hr;subst this;exact⟨⟨b,rfl⟩,h6⟩
theorem qnr (sg F F1:Nat) (hs:sg=0∨sg=9223372036854775808) (h1:F≤INF) (h2:F1≤INF) (hne:F≠F1):(FloatKind.f64.format.order (sg+F) (sg+F1)==some .eq)=false:=by
 have hI:INF=9218868437227405312:=rfl;have:FloatKind.f64.format.order (sg+F) (sg+F1)=_:=qgI (sg+F) (sg+F1) (by omega) (by omega);rw[this];have n1:qfo (sg+F)=false:=by unfold qfo;rw[decide_eq_false_iff_not];omega
 have n2:qfo (sg+F1)=false:=by unfold qfo;rw[decide_eq_false_iff_not];omega
 rw[n1,n2,Bool.or_self,if_neg (by decide)]
 have ho:qpo (sg+F)≠qpo (sg+F1):=by
  unfold qpo;rcases hs with h|h
  ·rw[if_pos (by omega),if_pos (by omega)];omega
  ·by_cases c1:F=0
   ·by_cases c2:F1=0
    ·omega
    ·rw[if_neg (by omega),if_neg (by omega)];omega
   ·rw[if_neg (by omega),if_neg (by omega)];omega
 rcases Int.lt_trichotomy (qpo (sg+F)) (qpo (sg+F1))with l|l|l
 ·rw[qeW l];rfl
 ·exact absurd l ho
 ·rw[qeJ l];rfl
theorem qvI:Tryz.zeroCells341=(List.replicate 800 (Value.int .u8 0)++[Value.int .i64 0,Value.int .i64 0,Value.bool false,Value.bool false]).toArray:=by kernel_rfl
theorem qtN (w:World):qaM (w.alloc (.cells Tryz.zeroCells341 341)) w.heap.size (fun _=>0) 0 0 false false:=by
 refine⟨_,Array.getElem?_push_size,fun i hi=>?_,?_,?_,?_,?_⟩
 all_goals rw[qvI]
 ·rw[List.getElem?_toArray,List.getElem?_append_left (by rw[List.length_replicate];exact hi),List.getElem?_replicate,if_pos hi];rfl
 all_goals rw[List.getElem?_toArray,List.getElem?_append_right (by rw[List.length_replicate];decide),List.length_replicate];rfl
theorem qmO (s:ByteArray) (a e:Nat) (ng:Bool) (E:Int) (H:qjO s a e) (S:Sgn s a ng) (T:Tail s e E) (ht:(mat s a e).trunc=true) (hs8:s.size≤799) (g2: -345≤qaG (mat s a e) E) (g1:qaG (mat s a e) E≤310)
 (hsm:qce ((mat s a e).mant+1) (qaG (mat s a e) E+348).toNat≠qce (mat s a e).mant (qaG (mat s a e) E+348).toNat) (r:Nat) (hr:qaW (mv s a e) (xpt (mat s a e) E) r) (w:World) (hG:qgu w):
 Calls Tryz.prog 263 #[.string s] w (AtRet ng r s.size w):=by
 have hz:=H.sz;have hl:=H.lt;have hle:=H.le;have hrf:=qlZ s a e ng E H S T w;unfold qkg at hrf;rw[ht] at hrf;have hsp:=Lh (qm1 s a ng (by omega) hz (by rcases S with h|h;exact .inl h.1;exact .inr h) (qey H) w);have hm:=(qb1 H e (by omega) (Nat.le_refl _)).2.1;have hmv:=qsg H
 have hnd:(mat s a e).nd≤800:=by
  have:=(ql6 H (e - a) (by omega)).1;rw[show a+(e - a)=e by omega] at this;omega
 have hset:=fun (D:Nat) (g0:Nat→Nat) (W:World) (h:qaM W D g0 0 0 false false)=>qoZ D D s a e ng E H S T hs8 g0 false false W h (Nat.le_refl _)
 obtain⟨d,hd⟩: ∃d,d=(mat s a e).mant:=⟨_,rfl⟩;obtain⟨p,hp⟩: ∃p,p=qaG (mat s a e) E:=⟨_,rfl⟩;have d0:0<d:=by rw[hd];exact hmv.p (by have:=hmv.n ht;omega)
 rw[←hd] at hm;rw[←hd,←hp] at hrf hsm;rw[←hp] at g1 g2;replace hrf:=Lh hrf;obtain⟨b,hb1,hb2⟩:=qgf ng;obtain⟨o1,o2⟩:=qq0 ng;have hsg:=qkJ ng;have hpg:=fun (W:World) (hW:qgu W) (h1: -348≤p) (h2:p≤347)=>qg3 (d+1) (p+348).toNat (sgw ng) (by omega) (by omega) (by omega) hsg W hW.tab (by have:=hW.big;omega)
 have hpf:=fun (h0:0<d) (h1: -348≤p) (h2:p≤347)=>qg3 d (p+348).toNat (sgw ng) h0 (by omega) (by omega) hsg w hG.tab (by have:=hG.big;omega)
 obtain⟨sg,hsgd⟩: ∃sg,sg=sgw ng:=⟨_,rfl⟩;rw[←hsgd] at hb1 o1 o2 hpf hpg hsg;have opt:=hG.opt;replace hb2:=Lh hb2;have hGh:=Lh hG;have u0:((d:Int)==0)=false:=by rw[beq_eq_false_iff_ne];omega
 have u1:decide ((310:Int)<p)=false:=dF (by omega);have u2:decide (p<(-345:Int))=false:=dF (by omega);have hpf':=Lh (hpf d0 (by omega) (by omega));rw[show((p+348).toNat:Int) - 348=p by omega] at hpf';have hpg':=fun W hW=>hpg W hW (by omega) (by omega)
 rw[show((p+348).toNat:Int) - 348=p by omega] at hpg';obtain⟨F,hF⟩: ∃F,F=qce d (p+348).toNat:=⟨_,rfl⟩;obtain⟨F1,hF1⟩: ∃F1,F1=qce (d+1) (p+348).toNat:=⟨_,rfl⟩;have hFI:F≤INF:=by rw[hF];exact(qeB d (p+348).toNat d0 (by omega) (by omega)).1
 have hFI1:F1≤INF:=by rw[hF1];exact(qeB (d+1) (p+348).toNat (by omega) (by omega) (by omega)).1
 rw[←hF,←hF1] at hsm;rw[←hF] at hpf';rw[←hF1] at hpg';obtain⟨er,her⟩: ∃er,er=qgF (decide (F=INF)):=⟨_,rfl⟩;obtain⟨er1,her1⟩: ∃er,er=qgF (decide (F1=INF)):=⟨_,rfl⟩;unfold qpK at hpf' hpg';rw[←her] at hpf';rw[←her1] at hpg';have hQQ:=qnr sg F F1 (by rw[hsgd];cases ng<;>simp[sgw]) hFI hFI1 (fun h=>hsm h.symm);obtain⟨Q,hQ⟩: ∃Q,Q=sg+F:=⟨_,rfl⟩;obtain⟨Q1,hQ1⟩: ∃Q1,Q1=sg+F1:=⟨_,rfl⟩;rw[←hQ,←hQ1] at hQQ;rw[←hQ] at hpf';rw[←hQ1] at hpg';replace hpg':=Lh (fun W hW=>hpg' W hW)
 have hfb: ∀(D:Nat) (W0 W:World),qcl W D (mat s a e).nd ((if (mat s a e).dot then (mat s a e).dp else ((mat s a e).nd:Int))+E) ng (mv s a e)→qgu W0→Below W0.heap.size W0 W→W0.heap.size≤D→Calls Tryz.prog 281 #[.pointer (some ⟨D,0,none⟩),.pointer (some ⟨11,0,none⟩)] W fun e w'=>(∃b,e= .returned (.tuple #[.int .u64 ((sgw ng+r:Nat):Int),.bool b]))∧Below W0.heap.size W0 w':=
  fun D W0 W h1 h2 h3 h4=>quG D _ _ r ng _ W0 W h1 hnd hr h2 h3 h4
 obtain⟨V,hV⟩: ∃V,V=sgw ng+r:=⟨_,rfl⟩;rw[←hV] at hfb;have hret: ∀b W,Below w.heap.size w W→AtRet ng r s.size w (.returned (.tuple #[.float .f64 V,.int .i64 s.size,qgF b])) W:=fun b W hb=>⟨⟨b,by rw[hV]⟩,hb⟩
 replace hret:=Lh hret;replace hV:=Lh hV;replace hfb:=Lh hfb;replace hset:=Lh hset;replace hsgd:=Lh hsgd;have hxs:s.extract 0 s.size=s:=ByteArray.extract_zero_size;clear H S T ht hd hp hG hl hle hpf hpg hsm g1 g2 her her1 hF hF1 hFI hFI1 hQ hQ1 hmv hnd hr d0;go_enter Tryz.func263,Tryz.ntmps263;go_wp2_with fail;refine hsp.out.mono ?_;rintro x w1 ⟨rfl,rfl⟩;go_wp2_with fail;refine hrf.out.mono ?_;rintro x w1 ⟨rfl,rfl⟩;go_wp2_with fail;refine(hb2.out _).mono ?_;rintro x w1 ⟨rfl,rfl⟩;go_wp2_with fail;refine hpf'.out.mono ?_;rintro x w1 ⟨rfl,hB⟩;replace hB:=Lh hB;go_wp2_with fail;refine(hpg'.out w1 (hGh.out.on hB.out)).mono ?_;rintro x w2 ⟨rfl,hB2⟩;replace hB:=Lh (hB.out.trans (hB2.mono hB.out.size));clear hB2;have hG2:=Lh (hGh.out.on hB.out);have hz1:=Lh (qtN w2);have hb1':=Lh ((Below.refl w2.heap.size w2).alloc (Nat.le_refl _) (.cells Tryz.zeroCells341 341));have hs1:decide ((s.size:Int)≤(s.size:Int))=true:=dT (by omega);go_wp2_with fail;refine(hset.out _ _ _ hz1.out).mono ?_;rintro x w3 ⟨rfl,h3,h4⟩;have hB3:=Lh (hb1'.out.trans h4);have hc4:=Lh (hfb.out _ w2 w3 h3 hG2.out hB3.out (Nat.le_refl _));clear h3 h4 hz1 hb1' hset hfb;go_wp2_with fail;refine hc4.out.mono ?_;rintro x w4 ⟨⟨bb,rfl⟩,h5⟩;have hB4:=Lh (hB.out.trans (h5.mono hB.out.size));have f1:=qq7 (V:Int) w4;rw[Int.toNat_natCast] at f1;clear h5 hc4;cases bb
 ·go_wp2_with fail;go_ret3;exact hret.out false _ hB4.out
 ·go_wp2_with fail;go_ret3;exact hret.out true _ hB4.out
theorem qpS (s:ByteArray) (a e:Nat) (ng:Bool) (E:Int) (H:qjO s a e) (S:Sgn s a ng) (T:Tail s e E) (ht:(mat s a e).trunc=true) (hsm: -345≤qaG (mat s a e) E→qaG (mat s a e) E≤310→qce ((mat s a e).mant+1) (qaG (mat s a e) E+348).toNat=qce (mat s a e).mant (qaG (mat s a e) E+348).toNat) (w:World) (hG:qgu w):
 Calls Tryz.prog 263 #[.string s] w (AtRet ng (v64 (mat s a e).mant (qaG (mat s a e) E)) s.size w):=by
 have hz:=H.sz;have hl:=H.lt;have hle:=H.le;have hrf:=qlZ s a e ng E H S T w;unfold qkg at hrf;rw[ht] at hrf;have hsp:=Lh (qm1 s a ng (by omega) hz (by rcases S with h|h;exact .inl h.1;exact .inr h) (qey H) w);have hm:=(qb1 H e (by omega) (Nat.le_refl _)).2.1;obtain⟨d,hd⟩: ∃d,d=(mat s a e).mant:=⟨_,rfl⟩;obtain⟨p,hp⟩: ∃p,p=qaG (mat s a e) E:=⟨_,rfl⟩;rw[←hd] at hm;rw[←hd,←hp] at hrf hsm⊢;replace hrf:=Lh hrf;obtain⟨b,hb1,hb2⟩:=qgf ng;obtain⟨o1,o2⟩:=qq0 ng;have hsg:=qkJ ng;have hpg:=fun (W:World) (hW:qgu W) (h1: -348≤p) (h2:p≤347)=>qg3 (d+1) (p+348).toNat (sgw ng) (by omega) (by omega) (by omega) hsg W hW.tab (by have:=hW.big;omega)
 have hpf:=fun (h0:0<d) (h1: -348≤p) (h2:p≤347)=>qg3 d (p+348).toNat (sgw ng) h0 (by omega) (by omega) hsg w hG.tab (by have:=hG.big;omega)
 obtain⟨sg,hsgd⟩: ∃sg,sg=sgw ng:=⟨_,rfl⟩;rw[←hsgd] at hb1 o1 o2 hpf hpg hsg;have f1:=qq7 (sg:Int) w;have f2:=qq7 ((sg+INF:Nat):Int) w;rw[Int.toNat_natCast] at f1 f2;have opt:=hG.opt;have hAt: ∀v b W,Below w.heap.size w W→v64 d p=v→AtRet ng (v64 d p) s.size w (.returned (.tuple #[.float .f64 (sg+v),.int .i64 s.size,qgF b])) W:=fun v b W hB hv=>by subst hv;rw[hsgd];exact⟨⟨b,rfl⟩,hB⟩
 obtain⟨hi,hhi⟩: ∃hi,hi=sg+INF:=⟨_,rfl⟩;rw[←hhi] at o2 f2;replace hsgd:=Lh hsgd;replace hb2:=Lh hb2;replace hAt:=Lh hAt;have hGh:=Lh hG;clear H S T ht hd hp hG hl hle
 by_cases g0:d=0
 ·have u0:((d:Int)==0)=true:=by simp[g0]
  have hv:Hid (AtRet ng (v64 d p) s.size w (.returned (.tuple #[.float .f64 sg,.int .i64 s.size,.nilIface])) w):=hAt.out 0 false w (Below.refl _ _) (by unfold v64;rw[if_pos g0]);clear hpf hpg hsm hAt g0 hhi;go_enter Tryz.func263,Tryz.ntmps263;go_wp2_with fail;refine hsp.out.mono ?_;rintro x w1 ⟨rfl,rfl⟩;go_wp2_with fail;refine hrf.out.mono ?_;rintro x w1 ⟨rfl,rfl⟩;go_wp2_with fail;refine(hb2.out _).mono ?_;rintro x w1 ⟨rfl,rfl⟩;go_wp2_with fail;go_ret3;exact hv.out
 ·have u0:((d:Int)==0)=false:=by simp[g0]
  have d0:0<d:=by omega
  by_cases g1:310<p
  ·have u1:decide ((310:Int)<p)=true:=dT g1;have hv:Hid (AtRet ng (v64 d p) s.size w (.returned (.tuple #[.float .f64 hi,.int .i64 s.size,.iface 287 (.int .i64 1)])) w):=by rw[hhi];exact hAt.out INF true w (Below.refl _ _) (by unfold v64;rw[if_neg g0,if_pos g1])
   clear hhi;clear hpf hpg hsm hAt g0;go_enter Tryz.func263,Tryz.ntmps263;go_wp2_with fail;refine hsp.out.mono ?_;rintro x w1 ⟨rfl,rfl⟩;go_wp2_with fail;refine hrf.out.mono ?_;rintro x w1 ⟨rfl,rfl⟩;go_wp2_with fail;refine(hb2.out _).mono ?_;rintro x w1 ⟨rfl,rfl⟩;go_wp2_with fail;go_ret3;exact hv.out
  ·have u1:decide ((310:Int)<p)=false:=dF g1
   by_cases g2:p< -345
   ·have u2:decide (p<(-345:Int))=true:=dT g2;have hv:Hid (AtRet ng (v64 d p) s.size w (.returned (.tuple #[.float .f64 sg,.int .i64 s.size,.nilIface])) w):=hAt.out 0 false w (Below.refl _ _) (by unfold v64;rw[if_neg g0,if_neg g1,if_pos g2]);clear hpf hpg hsm hAt g0 g1 g2 hhi;go_enter Tryz.func263,Tryz.ntmps263;go_wp2_with fail;refine hsp.out.mono ?_;rintro x w1 ⟨rfl,rfl⟩;go_wp2_with fail;refine hrf.out.mono ?_;rintro x w1 ⟨rfl,rfl⟩;go_wp2_with fail;refine(hb2.out _).mono ?_;rintro x w1 ⟨rfl,rfl⟩;go_wp2_with fail;go_ret3;exact hv.out
   ·have u2:decide (p<(-345:Int))=false:=dF g2;have hv:=fun b W hB=>hAt.out (qce d (p+348).toNat) b W hB (by unfold v64;rw[if_neg g0,if_neg g1,if_neg g2])
    have hpf':=Lh (hpf d0 (by omega) (by omega));rw[show((p+348).toNat:Int) - 348=p by omega] at hpf';have hpg':=fun W hW=>hpg W hW (by omega) (by omega)
    rw[show((p+348).toNat:Int) - 348=p by omega,hsm (by omega) (by omega)] at hpg';obtain⟨F,hF⟩: ∃F,F=qce d (p+348).toNat:=⟨_,rfl⟩;have hFI:F≤INF:=by rw[hF];exact(qeB d (p+348).toNat d0 (by omega) (by omega)).1
    rw[←hF] at hv hpf' hpg';obtain⟨er,her⟩: ∃er,er=qgF (decide (F=INF)):=⟨_,rfl⟩;have hv1: ∀W,Below w.heap.size w W→AtRet ng (v64 d p) s.size w (.returned (.tuple #[.float .f64 (sg+F),.int .i64 s.size,er])) W:=fun W hB=>by rw[her];exact hv _ W hB
    unfold qpK at hpf' hpg';rw[←her] at hpf' hpg';obtain⟨Q,hQ⟩: ∃Q,Q=sg+F:=⟨_,rfl⟩;rw[←hQ] at hv1 hpf' hpg'
    have hQQ:(FloatKind.f64.format.order Q Q==some .eq)=true:=by
     have hI:INF=9218868437227405312:=rfl;have hs2:sg=0∨sg=9223372036854775808:=by rw[hsgd.out];cases ng<;>simp[sgw]
     have h1:=qpu Q (by rw[hQ];omega)
     have h2:qfo Q=false:=by
      unfold qfo;rw[decide_eq_false_iff_not,hQ];rcases hs2 with h|h<;>omega
     rw[h2] at h1;simpa using h1
    replace hv1:=Lh hv1;replace hpg':=Lh (fun W hW=>hpg' W hW);clear hpf hpg hsm hAt g0 g1 g2 her hF hv hhi hQ hFI;go_enter Tryz.func263,Tryz.ntmps263;go_wp2_with fail;refine hsp.out.mono ?_;rintro x w1 ⟨rfl,rfl⟩;go_wp2_with fail;refine hrf.out.mono ?_;rintro x w1 ⟨rfl,rfl⟩;go_wp2_with fail;refine(hb2.out _).mono ?_;rintro x w1 ⟨rfl,rfl⟩;go_wp2_with fail;refine hpf'.out.mono ?_;rintro x w1 ⟨rfl,hB⟩;replace hB:=Lh hB;go_wp2_with fail;refine(hpg'.out w1 (hGh.out.on hB.out)).mono ?_;rintro x w2 ⟨rfl,hB2⟩;replace hB:=Lh (hB.out.trans (hB2.mono hB.out.size));clear hB2;go_wp2_with fail;go_ret3;exact hv1.out _ hB.out
end Go.Proofs.YtdeimnnpcfncpaaGreatDoor
end
section
namespace Go.Proofs.YtdeimnnpcfncpaaGreatDoor
open Go Go.RowKit Ieee
theorem qjB (a:Nat) (ha:a<18446744073709551616) (hn:qfo a=false): ∃s r,a=sgw s+r∧r≤INF:=by
 rw[qvM] at hn
 by_cases g:a<9223372036854775808
 ·exact⟨false,a,by simp[sgw],by omega⟩
 ·exact⟨true,a - 9223372036854775808,by simp only[sgw,if_true];omega,by omega⟩
theorem qkz:qaw (sgw false+INF)=[43,73,110,102]:=by
 unfold qaw;rw[show kindN (sgw false+INF)=3 by decide+kernel];rfl
theorem qjG:qaw (sgw true+INF)=[45,73,110,102]:=by
 unfold qaw;rw[show kindN (sgw true+INF)=3 by decide+kernel];rfl
end Go.Proofs.YtdeimnnpcfncpaaGreatDoor
end
section
namespace Go.Proofs.YtdeimnnpcfncpaaGreatDoor
open Go Go.RowKit
theorem qfb (s:ByteArray) (hs:s.size≤2000) (h:qau s.data.toList=true): ∃a e,qjO s a e∧Sgn s a (ngL s.data.toList)∧Tail s e (qfw (tlL s.data.toList))∧mat s a e=qby (qfi s.data.toList)∧(s.data.toList.take e).drop a=qfi s.data.toList:=by
 have hz:=qat s;unfold qau at h;rw[Bool.and_eq_true] at h;obtain⟨h1,h2⟩:=h;have hN:(qfh (sgd s.data.toList)).1≠0:=by simpa using h1
 obtain⟨P,hP,hP0,hseen,hch⟩:=qkG (sgd s.data.toList) (qfh (sgd s.data.toList)).2 (qfh (sgd s.data.toList)).1 rfl hN;unfold qfi
 change qdL (tlL s.data.toList)=true at h2
 change sgd s.data.toList=P++tlL s.data.toList at hP
 have hman:(sgd s.data.toList).take ((sgd s.data.toList).length - (tlL s.data.toList).length)=P:=by rw[hP,List.length_append,Nat.add_sub_cancel,List.take_left]
 rw[hman]
 obtain⟨A,hA,hSg⟩: ∃A:List UInt8,s.data.toList=A++(P++tlL s.data.toList)∧Sgn s A.length (ngL s.data.toList):=by
  rw[←hP];rcases qc9 s.data.toList with ⟨g1,g2,g3,g4⟩|⟨c,t,g1,g2,g3⟩
  ·exact⟨[],by rw[g1];rfl,.inl ⟨rfl,g2,g3,g4⟩⟩
  ·refine⟨[c],by rw[g2];exact g1,.inr ⟨rfl,?_⟩⟩;have hb:bt s 0=c:=by unfold bt;rw[g1];rfl
   rw[hb];exact g3
 have hPl:0<P.length:=List.length_pos_iff.2 hP0;obtain⟨r,hr⟩: ∃r,r=tlL s.data.toList:=⟨_,rfl⟩;rw[←hr] at hA h2⊢;have hsz:s.size=A.length+(P.length+r.length):=by rw[←hz,hA,List.length_append,List.length_append]
 have hb: ∀k (hk:k<P.length),bt s (A.length+k)=P[k]:=fun k hk=>by unfold bt;rw[hA];exact qpx A P r k hk
 have hm: ∀k,k≤P.length→mat s A.length (A.length+k)=qby (P.take k):=fun k hk=>by unfold mat;rw[hA,qiZ A P r k hk]
 refine⟨A.length,A.length+P.length,⟨hs,by omega,by omega,fun i hi hi2=>?_,?_⟩,hSg,?_,?_,?_⟩
 ·obtain⟨k,rfl⟩: ∃k,i=A.length+k:=⟨i - A.length,by omega⟩;rw[hb k (by omega),hm k (by omega)];exact hch k (by omega)
 ·rw[hm _ (Nat.le_refl _),List.take_length];exact hseen
 ·have hbr: ∀k,bt s (A.length+P.length+k)=r.getD k 0:=fun k=>by
   unfold bt;rw[hA,gZd,List.getElem?_append_right (by omega),List.getElem?_append_right (by omega),gZd]
   congr 2;omega
  cases r with
  |nil=>exact .none (by rw[hsz];simp)
  |cons c t=>
   rw[qdL,Bool.and_eq_true,Bool.and_eq_true,Bool.and_eq_true] at h2;obtain⟨c1,⟨c2,c3⟩,c4⟩:=h2;have c2:=of_decide_eq_true c2;have c3:=of_decide_eq_true c3;have c4:qaz (sgd t)=(sgd t).length:=by simpa using c4
   have hds:=qdt _ c4;have hcc:c=101∨c=69:=by simpa using c1
   have hb0:=hbr 0;rw[Nat.add_zero] at hb0
   obtain⟨b,hbt,hbs⟩: ∃b,t.drop b=sgd t∧((b=0∧ngL t=false∧t.getD 0 0≠43∧t.getD 0 0≠45)∨(b=1∧((ngL t=false∧t.getD 0 0=43)∨(ngL t=true∧t.getD 0 0=45)))):=by
    rcases qc9 t with ⟨g1,g2,g3,g4⟩|⟨x,u,g1,g2,g3⟩
    ·exact⟨0,by rw[g1];rfl,.inl ⟨rfl,g2,g3,g4⟩⟩
    ·exact⟨1,by rw[g2,g1];rfl,.inr ⟨rfl,by rw[g1] at g3⊢;exact g3⟩⟩
   have hbl:(sgd t).length+b=t.length:=by
    rw[←hbt,List.length_drop]
    have:b≤t.length:=by
     rcases Nat.lt_or_ge t.length b with g|g
     ·have:t.drop b=[]:=List.drop_of_length_le (by omega);rw[hbt] at this;rw[this] at c4 c2;simp[qaz] at c2
     ·exact g
    omega
   have hsz2:s.size=A.length+P.length+(1+b)+(sgd t).length:=by rw[hsz,List.length_cons];omega
   have hdrop:s.data.toList.drop (A.length+P.length+1+b)=sgd t:=by
    rw[hA,←List.append_assoc,←hbt];rw[show A.length+P.length+1+b=(A++P).length+(b+1) by rw[List.length_append];omega,List.drop_append,List.drop_of_length_le (by omega),List.nil_append,show(A++P).length+(b+1) - (A++P).length=b+1 by omega,List.drop_succ_cons]
   have hE:est s (A.length+P.length+1+b) s.size=qas (sgd t):=by
    unfold est;rw[List.take_of_length_le (by rw[hz];exact Nat.le_refl _),hdrop];rfl
   have:=Tail.exp (s:=s) (e:=A.length+P.length) b (ngL t) (by rw[hb0];exact hcc) (by rw[hbr 1];exact hbs) (by omega) (by omega) (fun i hi hi2=>by
    obtain⟨k,rfl⟩: ∃k,i=A.length+P.length+1+b+k:=⟨i - (A.length+P.length+1+b),by omega⟩;have hk:k<(sgd t).length:=by omega
    have hg:bt s (A.length+P.length+1+b+k)=(sgd t)[k]:=by
     unfold bt;rw[←List.getElem_of_eq hdrop (by rw[hdrop];exact hk),List.getElem_drop,gZd,gZq (by rw[hz];omega)];rfl
    rw[hg]
    exact hds _ (List.getElem_mem _))
   rw[hE] at this;exact this
 ·rw[hm _ (Nat.le_refl _),List.take_length]
 ·rw[hA,qiZ A P r _ (Nat.le_refl _),List.take_length]
theorem qou (s:ByteArray) (a e:Nat) (ng:Bool) (E:Int) (H:qjO s a e) (S:Sgn s a ng) (T:Tail s e E) (hs8:s.size≤799) (r:Nat) (hr:qaW (mv s a e) (xpt (mat s a e) E) r) (w:World) (hG:qgu w):
 Calls Tryz.prog 263 #[.string s] w (AtRet ng r s.size w):=by
 have hmv:=qsg H;have hm:=(qb1 H e (by have:=H.lt;omega) (Nat.le_refl _)).2.1
 cases ht:(mat s a e).trunc with
 |false=>
  have h:=qiO hmv hm E ht;rw[qh7 hr h];exact qkA s a e ng E H S T ht w hG
 |true=>
  by_cases hc: -345≤qaG (mat s a e) E→qaG (mat s a e) E≤310→qce ((mat s a e).mant+1) (qaG (mat s a e) E+348).toNat=qce (mat s a e).mant (qaG (mat s a e) E+348).toNat
  ·have h:=qkQ hmv hm E ht hc;rw[qh7 hr h];exact qpS s a e ng E H S T ht hc w hG
  ·have g1: -345≤qaG (mat s a e) E:=Classical.byContradiction fun h=>hc fun h2=>absurd h2 h
   have g2:qaG (mat s a e) E≤310:=Classical.byContradiction fun h=>hc fun _ h2=>absurd h2 h
   have g3:qce ((mat s a e).mant+1) (qaG (mat s a e) E+348).toNat≠qce (mat s a e).mant (qaG (mat s a e) E+348).toNat:=fun h=>hc fun _ _=>h
   exact qmO s a e ng E H S T ht hs8 g1 g2 g3 r hr w hG
def qkd (l:List UInt8):Nat:=mvF (qfi l)
def qj3 (l:List UInt8):Int:=xpt (qby (qfi l)) (qfw (tlL l))
theorem qj7 (s:ByteArray) (hs:s.size≤780) (h1:qbz s.data.toList=false) (h2:qau s.data.toList=true) (r:Nat) (hr:qaW (qkd s.data.toList) (qj3 s.data.toList) r) (w:World) (hG:qqD w):
 Calls Tryz.prog 73 #[.string s] w (qko ((sgw (ngL s.data.toList)+r:Nat):Int) 0 w):=by
 refine ql1 s hs h1 h2 (ngL s.data.toList) r w hG fun W hW=>?_
 obtain⟨a,e,H,S,T,hm,hl⟩:=qfb s (by omega) h2;refine qou s a e _ _ H S T (by omega) r ?_ W hW;have e1:mv s a e=qkd s.data.toList:=by unfold mv qkd;rw[hl]
 have e2:xpt (mat s a e) (qfw (tlL s.data.toList))=qj3 s.data.toList:=by unfold qj3;rw[hm]
 rw[e1,e2];exact hr
end Go.Proofs.YtdeimnnpcfncpaaGreatDoor
end
