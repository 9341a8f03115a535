/- Parts of the proof: HT HU. -/
import Derived.Test.YtdeimnnpcfncpaaGreatDoorCY27
import Derived.Test.YtdeimnnpcfncpaaGreatDoorCY23
import Derived.Test.YtdeimnnpcfncpaaGreatDoorCY28
set_option linter.unusedVariables false
set_option linter.unusedSimpArgs false
set_option maxRecDepth 100000
set_option maxHeartbeats 64000000
namespace Go.Proofs.YtdeimnnpcfncpaaGreatDoor
open Go Go.RowKit
theorem qr2 (D nd v r:Nat) (ng:Bool) (dp:Int) (w0 w:World) (h:qb6 w D nd dp ng v) (hn:nd≤800) (hr:qbk v (dp - nd) r) (hG:qeO w0) (hb0:Below w0.heap.size w0 w) (hD:w0.heap.size≤D):
 Calls Tryz.prog 281 #[.pointer (some ⟨D,0,none⟩),.pointer (some ⟨11,0,none⟩)] w fun e w'=>(∃b,e= .returned (.tuple #[.int .u64 ((sgw ng+r:Nat):Int),.bool b]))∧Below w0.heap.size w0 w':=by
 obtain⟨g,h1,h2,h3,h4⟩:=h.ex;have hGw:=hG.on hb0;rcases Nat.eq_zero_or_pos nd with hz|hz
 ·subst hz;have hv:v=0:=h4.symm;have hr0:r=0:=qgT hr (by rw[hv];exact qhb _);refine(qpq D g dp ng false w h1 hGw).mono ?_;rintro e w' ⟨h5,h6⟩;rw[hr0];exact⟨h5,hb0.trans (h6.mono hb0.size)⟩
 ·have g0:=h3.resolve_left (by omega);have b1:10^(nd - 1)≤v:=by rw[←h4];exact qeb hz g0
  have b2:v<10^nd:=by rw[←h4];exact qet nd h2
  by_cases k1:310<dp
  ·have hr0:r=INF:=qgT hr (qjd b1 (by omega));refine(qse D g nd dp ng false w h1 hz k1 hGw).mono ?_;rintro e w' ⟨h5,h6⟩;rw[hr0];exact⟨h5,hb0.trans (h6.mono hb0.size)⟩
  ·by_cases k2:dp< -330
   ·have hr0:r=0:=qgT hr (qe4 b2 (by omega));refine(qlA D g nd dp ng false w h1 hz k2 hGw).mono ?_;rintro e w' ⟨h5,h6⟩;rw[hr0];exact⟨h5,hb0.trans (h6.mono hb0.size)⟩
   ·obtain⟨E0,hE0⟩: ∃E0:Nat,E0=(dp+2000).toNat:=⟨_,rfl⟩;have hE1:(E0:Int) - 2000=dp:=by omega
    have hN:qbC w D (dec g nd E0) E0 ng false:=⟨g,nd,by rw[hE1];exact h1,hz,hn,h2,g0,by omega,rfl⟩;refine(qr3 D _ E0 ng w0 w hN (by omega) (by omega) hG hb0 hD).mono ?_;rintro e w' ⟨⟨r',b,rfl,h5⟩,h6⟩;have e1:E0=nd+(dp - nd+2000).toNat:=by omega
    rw[e1] at h5;have h7:=qrv (by omega) h5;rw[h4] at h7;have:r'=r:=qgT h7 hr;subst this;exact⟨⟨b,rfl⟩,h6⟩
theorem qlL (sg F F1:Nat) (hs:sg=0∨sg=9223372036854775808) (h1:F≤INF) (h2:F1≤INF) (hne:F≠F1):(FloatKind.f64.format.order (sg+F) (sg+F1)==some .eq)=false:=by
 have hI:INF=9218868437227405312:=rfl;have:FloatKind.f64.format.order (sg+F) (sg+F1)=_:=qgu (sg+F) (sg+F1) (by omega) (by omega);rw[this];have n1:qdU (sg+F)=false:=by unfold qdU;rw[decide_eq_false_iff_not];omega
 have n2:qdU (sg+F1)=false:=by unfold qdU;rw[decide_eq_false_iff_not];omega
 rw[n1,n2,Bool.or_self,if_neg (by decide)]
 have ho:qmn (sg+F)≠qmn (sg+F1):=by
  unfold qmn;rcases hs with h|h
  ·rw[if_pos (by omega),if_pos (by omega)];omega
  ·by_cases c1:F=0
   ·by_cases c2:F1=0
    ·omega
    ·rw[if_neg (by omega),if_neg (by omega)];omega
   ·rw[if_neg (by omega),if_neg (by omega)];omega
 rcases Int.lt_trichotomy (qmn (sg+F)) (qmn (sg+F1))with l|l|l
 ·rw[qee l];rfl
 ·exact absurd l ho
 ·rw[qea l];rfl
theorem qtc:Tryz.zeroCells341=(List.replicate 800 (Value.int .u8 0)++[Value.int .i64 0,Value.int .i64 0,Value.bool false,Value.bool false]).toArray:=by kernel_rfl
theorem qrA (w:World):qaK (w.alloc (.cells Tryz.zeroCells341 341)) w.heap.size (fun _=>0) 0 0 false false:=by
 refine⟨_,Array.getElem?_push_size,fun i hi=>?_,?_,?_,?_,?_⟩
 all_goals rw[qtc]
 ·rw[List.getElem?_toArray,List.getElem?_append_left (by rw[List.length_replicate];exact hi),List.getElem?_replicate,if_pos hi];rfl
 all_goals rw[List.getElem?_toArray,List.getElem?_append_right (by rw[List.length_replicate];decide),List.length_replicate];rfl
theorem qkM (s:ByteArray) (a e:Nat) (ng:Bool) (E:Int) (H:qh6 s a e) (S:Sgn s a ng) (T:Tail s e E) (ht:(mat s a e).trunc=true) (hs8:s.size≤799) (g2: -345≤qaG (mat s a e) E) (g1:qaG (mat s a e) E≤310)
 (hsm:qbZ ((mat s a e).mant+1) (qaG (mat s a e) E+348).toNat≠qbZ (mat s a e).mant (qaG (mat s a e) E+348).toNat) (r:Nat) (hr:qbk (mv s a e) (xpt (mat s a e) E) r) (w:World) (hG:qeO w):
 Calls Tryz.prog 263 #[.string s] w (AtRet ng r s.size w):=by
 have hz:=H.sz;have hl:=H.lt;have hle:=H.le;have hrf:=qjs s a e ng E H S T w;unfold qiq at hrf;rw[ht] at hrf;have hsp:=Lh (qla s a ng (by omega) hz (by rcases S with h|h;exact .inl h.1;exact .inr h) (qdR H) w);have hm:=(qbR H e (by omega) (Nat.le_refl _)).2.1;have hmv:=qp8 H
 have hnd:(mat s a e).nd≤800:=by
  have:=(qje H (e - a) (by omega)).1;rw[show a+(e - a)=e by omega] at this;omega
 have hset:=fun (D:Nat) (g0:Nat→Nat) (W:World) (h:qaK W D g0 0 0 false false)=>qmw D D s a e ng E H S T hs8 g0 false false W h (Nat.le_refl _)
 obtain⟨d,hd⟩: ∃d,d=(mat s a e).mant:=⟨_,rfl⟩;obtain⟨p,hp⟩: ∃p,p=qaG (mat s a e) E:=⟨_,rfl⟩;have d0:0<d:=by rw[hd];exact hmv.p (by have:=hmv.n ht;omega)
 rw[←hd] at hm;rw[←hd,←hp] at hrf hsm;rw[←hp] at g1 g2;replace hrf:=Lh hrf;obtain⟨b,hb1,hb2⟩:=qfd ng;obtain⟨o1,o2⟩:=qpu ng;have hsg:=qjV ng;have hpg:=fun (W:World) (hW:qeO W) (h1: -348≤p) (h2:p≤347)=>qfW (d+1) (p+348).toNat (sgw ng) (by omega) (by omega) (by omega) hsg W hW.tab (by have:=hW.big;omega)
 have hpf:=fun (h0:0<d) (h1: -348≤p) (h2:p≤347)=>qfW d (p+348).toNat (sgw ng) h0 (by omega) (by omega) hsg w hG.tab (by have:=hG.big;omega)
 obtain⟨sg,hsgd⟩: ∃sg,sg=sgw ng:=⟨_,rfl⟩;rw[←hsgd] at hb1 o1 o2 hpf hpg hsg;have opt:=hG.opt;replace hb2:=Lh hb2;have hGh:=Lh hG;have u0:((d:Int)==0)=false:=by rw[beq_eq_false_iff_ne];omega
 have u1:decide ((310:Int)<p)=false:=dF (by omega);have u2:decide (p<(-345:Int))=false:=dF (by omega);have hpf':=Lh (hpf d0 (by omega) (by omega));rw[show((p+348).toNat:Int) - 348=p by omega] at hpf';have hpg':=fun W hW=>hpg W hW (by omega) (by omega)
 rw[show((p+348).toNat:Int) - 348=p by omega] at hpg';obtain⟨F,hF⟩: ∃F,F=qbZ d (p+348).toNat:=⟨_,rfl⟩;obtain⟨F1,hF1⟩: ∃F1,F1=qbZ (d+1) (p+348).toNat:=⟨_,rfl⟩;have hFI:F≤INF:=by rw[hF];exact(qdT d (p+348).toNat d0 (by omega) (by omega)).1
 have hFI1:F1≤INF:=by rw[hF1];exact(qdT (d+1) (p+348).toNat (by omega) (by omega) (by omega)).1
 rw[←hF,←hF1] at hsm;rw[←hF] at hpf';rw[←hF1] at hpg';obtain⟨er,her⟩: ∃er,er=qfB (decide (F=INF)):=⟨_,rfl⟩;obtain⟨er1,her1⟩: ∃er,er=qfB (decide (F1=INF)):=⟨_,rfl⟩;unfold qms at hpf' hpg';rw[←her] at hpf';rw[←her1] at hpg';have hQQ:=qlL sg F F1 (by rw[hsgd];cases ng<;>simp[sgw]) hFI hFI1 (fun h=>hsm h.symm);obtain⟨Q,hQ⟩: ∃Q,Q=sg+F:=⟨_,rfl⟩;obtain⟨Q1,hQ1⟩: ∃Q1,Q1=sg+F1:=⟨_,rfl⟩;rw[←hQ,←hQ1] at hQQ;rw[←hQ] at hpf';rw[←hQ1] at hpg';replace hpg':=Lh (fun W hW=>hpg' W hW)
 have hfb: ∀(D:Nat) (W0 W:World),qb6 W D (mat s a e).nd ((if (mat s a e).dot then (mat s a e).dp else ((mat s a e).nd:Int))+E) ng (mv s a e)→qeO W0→Below W0.heap.size W0 W→W0.heap.size≤D→Calls Tryz.prog 281 #[.pointer (some ⟨D,0,none⟩),.pointer (some ⟨11,0,none⟩)] W fun e w'=>(∃b,e= .returned (.tuple #[.int .u64 ((sgw ng+r:Nat):Int),.bool b]))∧Below W0.heap.size W0 w':=
  fun D W0 W h1 h2 h3 h4=>qr2 D _ _ r ng _ W0 W h1 hnd hr h2 h3 h4
 obtain⟨V,hV⟩: ∃V,V=sgw ng+r:=⟨_,rfl⟩;rw[←hV] at hfb;have hret: ∀b W,Below w.heap.size w W→AtRet ng r s.size w (.returned (.tuple #[.float .f64 V,.int .i64 s.size,qfB b])) W:=fun b W hb=>⟨⟨b,by rw[hV]⟩,hb⟩
 replace hret:=Lh hret;replace hV:=Lh hV;replace hfb:=Lh hfb;replace hset:=Lh hset;replace hsgd:=Lh hsgd;have hxs:s.extract 0 s.size=s:=ByteArray.extract_zero_size;clear H S T ht hd hp hG hl hle hpf hpg hsm g1 g2 her her1 hF hF1 hFI hFI1 hQ hQ1 hmv hnd hr d0;go_enter Tryz.func263,Tryz.ntmps263;go_wp2_with fail;refine hsp.out.mono ?_;rintro x w1 ⟨rfl,rfl⟩;go_wp2_with fail;refine hrf.out.mono ?_;rintro x w1 ⟨rfl,rfl⟩;go_wp2_with fail;refine(hb2.out _).mono ?_;rintro x w1 ⟨rfl,rfl⟩;go_wp2_with fail;refine hpf'.out.mono ?_;rintro x w1 ⟨rfl,hB⟩;replace hB:=Lh hB;go_wp2_with fail;refine(hpg'.out w1 (hGh.out.on hB.out)).mono ?_;rintro x w2 ⟨rfl,hB2⟩;replace hB:=Lh (hB.out.trans (hB2.mono hB.out.size));clear hB2;have hG2:=Lh (hGh.out.on hB.out);have hz1:=Lh (qrA w2);have hb1':=Lh ((Below.refl w2.heap.size w2).alloc (Nat.le_refl _) (.cells Tryz.zeroCells341 341));have hs1:decide ((s.size:Int)≤(s.size:Int))=true:=dT (by omega);go_wp2_with fail;refine(hset.out _ _ _ hz1.out).mono ?_;rintro x w3 ⟨rfl,h3,h4⟩;have hB3:=Lh (hb1'.out.trans h4);have hc4:=Lh (hfb.out _ w2 w3 h3 hG2.out hB3.out (Nat.le_refl _));clear h3 h4 hz1 hb1' hset hfb;go_wp2_with fail;refine hc4.out.mono ?_;rintro x w4 ⟨⟨bb,rfl⟩,h5⟩;have hB4:=Lh (hB.out.trans (h5.mono hB.out.size));have f1:=qpJ (V:Int) w4;rw[Int.toNat_natCast] at f1;clear h5 hc4;cases bb
 ·go_wp2_with fail;go_ret3;exact hret.out false _ hB4.out
 ·go_wp2_with fail;go_ret3;exact hret.out true _ hB4.out
theorem qd4 (s:ByteArray) (hs:s.size≤2000) (h:qaE s.data.toList=true): ∃a e,qh6 s a e∧Sgn s a (ngL s.data.toList)∧Tail s e (qi5 (tlL s.data.toList))∧mat s a e=qbW (qdf s.data.toList)∧(s.data.toList.take e).drop a=qdf s.data.toList:=by
 have hz:=qau s;unfold qaE at h;rw[Bool.and_eq_true] at h;obtain⟨h1,h2⟩:=h;have hN:(qel (sgd s.data.toList)).1≠0:=by simpa using h1
 obtain⟨P,hP,hP0,hseen,hch⟩:=qgn (sgd s.data.toList) (qel (sgd s.data.toList)).2 (qel (sgd s.data.toList)).1 rfl hN;unfold qdf
 change qd0 (tlL s.data.toList)=true at h2
 change sgd s.data.toList=P++tlL s.data.toList at hP
 have hman:(sgd s.data.toList).take ((sgd s.data.toList).length - (tlL s.data.toList).length)=P:=by rw[hP,List.length_append,Nat.add_sub_cancel,List.take_left]
 rw[hman]
 obtain⟨A,hA,hSg⟩: ∃A:List UInt8,s.data.toList=A++(P++tlL s.data.toList)∧Sgn s A.length (ngL s.data.toList):=by
  rw[←hP];rcases qcD s.data.toList with ⟨g1,g2,g3,g4⟩|⟨c,t,g1,g2,g3⟩
  ·exact⟨[],by rw[g1];rfl,.inl ⟨rfl,g2,g3,g4⟩⟩
  ·refine⟨[c],by rw[g2];exact g1,.inr ⟨rfl,?_⟩⟩;have hb:bt s 0=c:=by unfold bt;rw[g1];rfl
   rw[hb];exact g3
 have hPl:0<P.length:=List.length_pos_iff.2 hP0;obtain⟨r,hr⟩: ∃r,r=tlL s.data.toList:=⟨_,rfl⟩;rw[←hr] at hA h2⊢;have hsz:s.size=A.length+(P.length+r.length):=by rw[←hz,hA,List.length_append,List.length_append]
 have hb: ∀k (hk:k<P.length),bt s (A.length+k)=P[k]:=fun k hk=>by unfold bt;rw[hA];exact qh8 A P r k hk
 have hm: ∀k,k≤P.length→mat s A.length (A.length+k)=qbW (P.take k):=fun k hk=>by unfold mat;rw[hA,qfz A P r k hk]
 refine⟨A.length,A.length+P.length,⟨hs,by omega,by omega,fun i hi hi2=>?_,?_⟩,hSg,?_,?_,?_⟩
 ·obtain⟨k,rfl⟩: ∃k,i=A.length+k:=⟨i - A.length,by omega⟩;rw[hb k (by omega),hm k (by omega)];exact hch k (by omega)
 ·rw[hm _ (Nat.le_refl _),List.take_length];exact hseen
 ·have hbr: ∀k,bt s (A.length+P.length+k)=r.getD k 0:=fun k=>by
   unfold bt;rw[hA,List.getD_eq_getElem?_getD,List.getElem?_append_right (by omega),List.getElem?_append_right (by omega),List.getD_eq_getElem?_getD]
   congr 2;omega
  cases r with
  |nil=>exact .none (by rw[hsz];simp)
  |cons c t=>
   rw[qd0,Bool.and_eq_true,Bool.and_eq_true,Bool.and_eq_true] at h2;obtain⟨c1,⟨c2,c3⟩,c4⟩:=h2;have c2:=of_decide_eq_true c2;have c3:=of_decide_eq_true c3;have c4:qbo (sgd t)=(sgd t).length:=by simpa using c4
   have hds:=qdE _ c4;have hcc:c=101∨c=69:=by simpa using c1
   have hb0:=hbr 0;rw[Nat.add_zero] at hb0
   obtain⟨b,hbt,hbs⟩: ∃b,t.drop b=sgd t∧((b=0∧ngL t=false∧t.getD 0 0≠43∧t.getD 0 0≠45)∨(b=1∧((ngL t=false∧t.getD 0 0=43)∨(ngL t=true∧t.getD 0 0=45)))):=by
    rcases qcD t with ⟨g1,g2,g3,g4⟩|⟨x,u,g1,g2,g3⟩
    ·exact⟨0,by rw[g1];rfl,.inl ⟨rfl,g2,g3,g4⟩⟩
    ·exact⟨1,by rw[g2,g1];rfl,.inr ⟨rfl,by rw[g1] at g3⊢;exact g3⟩⟩
   have hbl:(sgd t).length+b=t.length:=by
    rw[←hbt,List.length_drop]
    have:b≤t.length:=by
     rcases Nat.lt_or_ge t.length b with g|g
     ·have:t.drop b=[]:=List.drop_of_length_le (by omega);rw[hbt] at this;rw[this] at c4 c2;simp[qbo] at c2
     ·exact g
    omega
   have hsz2:s.size=A.length+P.length+(1+b)+(sgd t).length:=by rw[hsz,List.length_cons];omega
   have hdrop:s.data.toList.drop (A.length+P.length+1+b)=sgd t:=by
    rw[hA,←List.append_assoc,←hbt];rw[show A.length+P.length+1+b=(A++P).length+(b+1) by rw[List.length_append];omega,List.drop_append,List.drop_of_length_le (by omega),List.nil_append,show(A++P).length+(b+1) - (A++P).length=b+1 by omega,List.drop_succ_cons]
   have hE:est s (A.length+P.length+1+b) s.size=qax (sgd t):=by
    unfold est;rw[List.take_of_length_le (by rw[hz];exact Nat.le_refl _),hdrop];rfl
   have:=Tail.exp (s:=s) (e:=A.length+P.length) b (ngL t) (by rw[hb0];exact hcc) (by rw[hbr 1];exact hbs) (by omega) (by omega) (fun i hi hi2=>by
    obtain⟨k,rfl⟩: ∃k,i=A.length+P.length+1+b+k:=⟨i - (A.length+P.length+1+b),by omega⟩;have hk:k<(sgd t).length:=by omega
    have hg:bt s (A.length+P.length+1+b+k)=(sgd t)[k]:=by
     unfold bt;rw[←List.getElem_of_eq hdrop (by rw[hdrop];exact hk),List.getElem_drop,List.getD_eq_getElem?_getD,List.getElem?_eq_getElem (by rw[hz];omega)];rfl
    rw[hg]
    exact hds _ (List.getElem_mem _))
   rw[hE] at this;exact this
 ·rw[hm _ (Nat.le_refl _),List.take_length]
 ·rw[hA,qfz A P r _ (Nat.le_refl _),List.take_length]
theorem qny (s:ByteArray) (a e:Nat) (ng:Bool) (E:Int) (H:qh6 s a e) (S:Sgn s a ng) (T:Tail s e E) (hs8:s.size≤799) (r:Nat) (hr:qbk (mv s a e) (xpt (mat s a e) E) r) (w:World) (hG:qeO w):
 Calls Tryz.prog 263 #[.string s] w (AtRet ng r s.size w):=by
 have hmv:=qp8 H;have hm:=(qbR H e (by have:=H.lt;omega) (Nat.le_refl _)).2.1
 cases ht:(mat s a e).trunc with
 |false=>
  have h:=qid hmv hm E ht;rw[qgT hr h];exact qeH s a e ng E H S T ht w hG
 |true=>
  by_cases hc: -345≤qaG (mat s a e) E→qaG (mat s a e) E≤310→qbZ ((mat s a e).mant+1) (qaG (mat s a e) E+348).toNat=qbZ (mat s a e).mant (qaG (mat s a e) E+348).toNat
  ·have h:=qkN hmv hm E ht hc;rw[qgT hr h];exact qhS s a e ng E H S T ht hc w hG
  ·have g1: -345≤qaG (mat s a e) E:=Classical.byContradiction fun h=>hc fun h2=>absurd h2 h
   have g2:qaG (mat s a e) E≤310:=Classical.byContradiction fun h=>hc fun _ h2=>absurd h2 h
   have g3:qbZ ((mat s a e).mant+1) (qaG (mat s a e) E+348).toNat≠qbZ (mat s a e).mant (qaG (mat s a e) E+348).toNat:=fun h=>hc fun _ _=>h
   exact qkM s a e ng E H S T ht hs8 g1 g2 g3 r hr w hG
def qmm (l:List UInt8):Nat:=mvF (qdf l)
def qlD (l:List UInt8):Int:=xpt (qbW (qdf l)) (qi5 (tlL l))
theorem qiK (s:ByteArray) (hs:s.size≤780) (h1:qbt s.data.toList=false) (h2:qaE s.data.toList=true) (r:Nat) (hr:qbk (qmm s.data.toList) (qlD s.data.toList) r) (w:World) (hG:qj9 w):
 Calls Tryz.prog 73 #[.string s] w (qd3 ((sgw (ngL s.data.toList)+r:Nat):Int) 0 w):=by
 refine qgr s hs h1 h2 (ngL s.data.toList) r w hG fun W hW=>?_
 obtain⟨a,e,H,S,T,hm,hl⟩:=qd4 s (by omega) h2;refine qny s a e _ _ H S T (by omega) r ?_ W hW;have e1:mv s a e=qmm s.data.toList:=by unfold mv qmm;rw[hl]
 have e2:xpt (mat s a e) (qi5 (tlL s.data.toList))=qlD s.data.toList:=by unfold qlD;rw[hm]
 rw[e1,e2];exact hr
end Go.Proofs.YtdeimnnpcfncpaaGreatDoor
