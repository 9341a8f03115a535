/- Parts of the proof: Y1 Y2 Y3 Y4. -/
import Derived.Test.YtdeimnnpcfncpaaGreatDoorCY17
set_option linter.unusedVariables false
set_option linter.unusedSimpArgs false
set_option maxRecDepth 100000
set_option maxHeartbeats 64000000
section
namespace Go.Proofs.YtdeimnnpcfncpaaGreatDoor
open Go Go.RowKit
theorem qhS (s:ByteArray) (a e:Nat) (ng:Bool) (E:Int) (H:qh6 s a e) (S:Sgn s a ng) (T:Tail s e E) (ht:(mat s a e).trunc=true) (hsm: -345≤qaG (mat s a e) E→qaG (mat s a e) E≤310→qbZ ((mat s a e).mant+1) (qaG (mat s a e) E+348).toNat=qbZ (mat s a e).mant (qaG (mat s a e) E+348).toNat) (w:World) (hG:qeO w):
 Calls Tryz.prog 263 #[.string s] w (AtRet ng (v64 (mat s a e).mant (qaG (mat s a e) E)) s.size w):=by
 have hz:=H.sz;have hl:=H.lt;have hle:=H.le;have hrf:=qjs s a e ng E H S T w;unfold qiq at hrf;rw[ht] at hrf;have hsp:=Lh (qla s a ng (by omega) hz (by rcases S with h|h;exact .inl h.1;exact .inr h) (qdR H) w);have hm:=(qbR H e (by omega) (Nat.le_refl _)).2.1;obtain⟨d,hd⟩: ∃d,d=(mat s a e).mant:=⟨_,rfl⟩;obtain⟨p,hp⟩: ∃p,p=qaG (mat s a e) E:=⟨_,rfl⟩;rw[←hd] at hm;rw[←hd,←hp] at hrf hsm⊢;replace hrf:=Lh hrf;obtain⟨b,hb1,hb2⟩:=qfd ng;obtain⟨o1,o2⟩:=qpu ng;have hsg:=qjV ng;have hpg:=fun (W:World) (hW:qeO W) (h1: -348≤p) (h2:p≤347)=>qfW (d+1) (p+348).toNat (sgw ng) (by omega) (by omega) (by omega) hsg W hW.tab (by have:=hW.big;omega)
 have hpf:=fun (h0:0<d) (h1: -348≤p) (h2:p≤347)=>qfW d (p+348).toNat (sgw ng) h0 (by omega) (by omega) hsg w hG.tab (by have:=hG.big;omega)
 obtain⟨sg,hsgd⟩: ∃sg,sg=sgw ng:=⟨_,rfl⟩;rw[←hsgd] at hb1 o1 o2 hpf hpg hsg;have f1:=qpJ (sg:Int) w;have f2:=qpJ ((sg+INF:Nat):Int) w;rw[Int.toNat_natCast] at f1 f2;have opt:=hG.opt;have hAt: ∀v b W,Below w.heap.size w W→v64 d p=v→AtRet ng (v64 d p) s.size w (.returned (.tuple #[.float .f64 (sg+v),.int .i64 s.size,qfB b])) W:=fun v b W hB hv=>by subst hv;rw[hsgd];exact⟨⟨b,rfl⟩,hB⟩
 obtain⟨hi,hhi⟩: ∃hi,hi=sg+INF:=⟨_,rfl⟩;rw[←hhi] at o2 f2;replace hsgd:=Lh hsgd;replace hb2:=Lh hb2;replace hAt:=Lh hAt;have hGh:=Lh hG;clear H S T ht hd hp hG hl hle
 by_cases g0:d=0
 ·have u0:((d:Int)==0)=true:=by simp[g0]
  have hv:Hid (AtRet ng (v64 d p) s.size w (.returned (.tuple #[.float .f64 sg,.int .i64 s.size,.nilIface])) w):=hAt.out 0 false w (Below.refl _ _) (by unfold v64;rw[if_pos g0]);clear hpf hpg hsm hAt g0 hhi;go_enter Tryz.func263,Tryz.ntmps263;go_wp2_with fail;refine hsp.out.mono ?_;rintro x w1 ⟨rfl,rfl⟩;go_wp2_with fail;refine hrf.out.mono ?_;rintro x w1 ⟨rfl,rfl⟩;go_wp2_with fail;refine(hb2.out _).mono ?_;rintro x w1 ⟨rfl,rfl⟩;go_wp2_with fail;go_ret3;exact hv.out
 ·have u0:((d:Int)==0)=false:=by simp[g0]
  have d0:0<d:=by omega
  by_cases g1:310<p
  ·have u1:decide ((310:Int)<p)=true:=dT g1;have hv:Hid (AtRet ng (v64 d p) s.size w (.returned (.tuple #[.float .f64 hi,.int .i64 s.size,.iface 287 (.int .i64 1)])) w):=by rw[hhi];exact hAt.out INF true w (Below.refl _ _) (by unfold v64;rw[if_neg g0,if_pos g1])
   clear hhi;clear hpf hpg hsm hAt g0;go_enter Tryz.func263,Tryz.ntmps263;go_wp2_with fail;refine hsp.out.mono ?_;rintro x w1 ⟨rfl,rfl⟩;go_wp2_with fail;refine hrf.out.mono ?_;rintro x w1 ⟨rfl,rfl⟩;go_wp2_with fail;refine(hb2.out _).mono ?_;rintro x w1 ⟨rfl,rfl⟩;go_wp2_with fail;go_ret3;exact hv.out
  ·have u1:decide ((310:Int)<p)=false:=dF g1
   by_cases g2:p< -345
   ·have u2:decide (p<(-345:Int))=true:=dT g2;have hv:Hid (AtRet ng (v64 d p) s.size w (.returned (.tuple #[.float .f64 sg,.int .i64 s.size,.nilIface])) w):=hAt.out 0 false w (Below.refl _ _) (by unfold v64;rw[if_neg g0,if_neg g1,if_pos g2]);clear hpf hpg hsm hAt g0 g1 g2 hhi;go_enter Tryz.func263,Tryz.ntmps263;go_wp2_with fail;refine hsp.out.mono ?_;rintro x w1 ⟨rfl,rfl⟩;go_wp2_with fail;refine hrf.out.mono ?_;rintro x w1 ⟨rfl,rfl⟩;go_wp2_with fail;refine(hb2.out _).mono ?_;rintro x w1 ⟨rfl,rfl⟩;go_wp2_with fail;go_ret3;exact hv.out
   ·have u2:decide (p<(-345:Int))=false:=dF g2;have hv:=fun b W hB=>hAt.out (qbZ d (p+348).toNat) b W hB (by unfold v64;rw[if_neg g0,if_neg g1,if_neg g2])
    have hpf':=Lh (hpf d0 (by omega) (by omega));rw[show((p+348).toNat:Int) - 348=p by omega] at hpf';have hpg':=fun W hW=>hpg W hW (by omega) (by omega)
    rw[show((p+348).toNat:Int) - 348=p by omega,hsm (by omega) (by omega)] at hpg';obtain⟨F,hF⟩: ∃F,F=qbZ d (p+348).toNat:=⟨_,rfl⟩;have hFI:F≤INF:=by rw[hF];exact(qdT d (p+348).toNat d0 (by omega) (by omega)).1
    rw[←hF] at hv hpf' hpg';obtain⟨er,her⟩: ∃er,er=qfB (decide (F=INF)):=⟨_,rfl⟩;have hv1: ∀W,Below w.heap.size w W→AtRet ng (v64 d p) s.size w (.returned (.tuple #[.float .f64 (sg+F),.int .i64 s.size,er])) W:=fun W hB=>by rw[her];exact hv _ W hB
    unfold qms at hpf' hpg';rw[←her] at hpf' hpg';obtain⟨Q,hQ⟩: ∃Q,Q=sg+F:=⟨_,rfl⟩;rw[←hQ] at hv1 hpf' hpg'
    have hQQ:(FloatKind.f64.format.order Q Q==some .eq)=true:=by
     have hI:INF=9218868437227405312:=rfl;have hs2:sg=0∨sg=9223372036854775808:=by rw[hsgd.out];cases ng<;>simp[sgw]
     have h1:=qmo Q (by rw[hQ];omega)
     have h2:qdU Q=false:=by
      unfold qdU;rw[decide_eq_false_iff_not,hQ];rcases hs2 with h|h<;>omega
     rw[h2] at h1;simpa using h1
    replace hv1:=Lh hv1;replace hpg':=Lh (fun W hW=>hpg' W hW);clear hpf hpg hsm hAt g0 g1 g2 her hF hv hhi hQ hFI;go_enter Tryz.func263,Tryz.ntmps263;go_wp2_with fail;refine hsp.out.mono ?_;rintro x w1 ⟨rfl,rfl⟩;go_wp2_with fail;refine hrf.out.mono ?_;rintro x w1 ⟨rfl,rfl⟩;go_wp2_with fail;refine(hb2.out _).mono ?_;rintro x w1 ⟨rfl,rfl⟩;go_wp2_with fail;refine hpf'.out.mono ?_;rintro x w1 ⟨rfl,hB⟩;replace hB:=Lh hB;go_wp2_with fail;refine(hpg'.out w1 (hGh.out.on hB.out)).mono ?_;rintro x w2 ⟨rfl,hB2⟩;replace hB:=Lh (hB.out.trans (hB2.mono hB.out.size));clear hB2;go_wp2_with fail;go_ret3;exact hv1.out _ hB.out
theorem qf7 (s:ByteArray) (hs:s.size≤2000) (h2:qaE s.data.toList=true) (hF:qe7 s.data.toList) (W:World) (hW:qeO W):
 Calls Tryz.prog 263 #[.string s] W (AtRet (ngL s.data.toList) (v64 (qbW (qdf s.data.toList)).mant (pX s.data.toList)) s.size W):=by
 obtain⟨a,e,H,S,T,hm⟩:=qit s hs h2
 cases ht:(qbW (qdf s.data.toList)).trunc with
 |false=>
  have:=qeH s a e _ _ H S T (by rw[hm];exact ht) W hW;rw[hm] at this;exact this
 |true=>
  have:=qhS s a e _ _ H S T (by rw[hm];exact ht) (by rw[hm];exact hF ht) W hW;rw[hm] at this;exact this
theorem qiG (s:ByteArray) (hs:s.size≤780) (h1:qbt s.data.toList=false) (h2:qaE s.data.toList=true) (hF:qe7 s.data.toList) (w:World) (hG:qj9 w):Calls Tryz.prog 73 #[.string s] w (qd3 ((qi6 s.data.toList:Nat):Int) 0 w):=
 qgr s hs h1 h2 (ngL s.data.toList) _ w hG fun W hW=>qf7 s (by omega) h2 hF W hW
theorem qiU (s t:ByteArray) (hs:s.size≤1200) (ht:t.size≤2000) (h1:qbt s.data.toList=false) (h2:qaE s.data.toList=true) (k2:qaE t.data.toList=true) (hF:qe7 t.data.toList) (w:World) (hG:qj9 w)
 (hsh:Calls Tryz.prog 130 #[.string s] w fun e w'=>e= .returned (.string t)∧Below w.heap.size w w'):
 Calls Tryz.prog 73 #[.string s] w (qd3 ((qi6 t.data.toList:Nat):Int) 0 w):=by
 have u1:decide ((1200:Int)<(s.size:Int))=false:=dF (by omega);have u1':decide (1200<s.size)=false:=dF (by omega);obtain⟨n1,n2,n3,n4⟩:=qlh s h1;have c1:=qdV s (by omega) w;rw[h2] at c1;replace c1:=Lh c1;have c2:=Lh hsh;have c3:=Lh (fun (W:World) (hW:qj9 W)=>qdZ t ht (ngL t.data.toList) _ W hW (fun W' hW'=>qf7 t ht k2 hF W' hW'));have hGh:=Lh hG;obtain⟨f,hf⟩: ∃f,f=sgw (ngL t.data.toList)+v64 (qbW (qdf t.data.toList)).mant (pX t.data.toList):=⟨_,rfl⟩;have hf2:qi6 t.data.toList=f:=by rw[hf];rfl
 rw[hf2];rw[←hf] at c3;clear h1 h2 hG hsh hf hf2 k2 hF;go_enter Tryz.func73,Tryz.ntmps73;go_wp2_with fail;refine c1.out.mono ?_;rintro x w1 ⟨rfl,rfl⟩;go_wp2_with fail;refine c2.out.mono ?_;rintro x w1 ⟨rfl,hB0⟩;have B:=Lh hB0;clear hB0 c2;go_wp2_with fail;refine(c3.out w1 (hGh.out.on B.out)).mono ?_;rintro x w2 ⟨⟨er,rfl⟩,hB⟩;have hB':=Lh (B.out.trans (hB.mono B.out.size));have hb:=qtu f w2;clear hB;go_wp2_with fail;go_ret2;exact⟨rfl,hB'.out⟩
theorem qrY (n:Int) (h:n.natAbs≤9223372036854775807) (w:World) (htab:Lib.TabIs Tryz.prog w "internal/strconv.uint64pow10" .u64 Lib.pow10Tab):
 Calls Tryz.prog 59 #[.int .i64 n] w fun e w'=>e= .returned (.string (BS (Lib.itoa n)))∧Below w.heap.size w w':=
 (Tryz.strconv_Itoa n (by omega) (by omega) w htab).mono fun e w' ⟨h1,k,os,h2⟩=>⟨h1,h2▸Lib.below_grow _ w (Nat.le_refl _) k os⟩
def sgL (s:Bool):List UInt8:=if s then [45] else []
theorem qiN (s:Bool) (W T:List UInt8) (hW:qaR W) (hT:qaR T) (hW0:W≠[]) (A:List UInt8) (hA:A=stp (W++T)) (hA0:A≠[]) (hA1:A.length≤780) (h1:780<(sgL s++(W++46::T)).length) (h2:(sgL s++(W++46::T)).length≤1200)
 (w:World) (hG:qmH w):Calls Tryz.prog 130 #[.string (BS (sgL s++(W++46::T)))] w fun e w'=>e= .returned (.string (BS (shL s A T)))∧Below w.heap.size w w':=by
 obtain⟨c,t,hct⟩: ∃c t,W=c::t:=by cases W with|nil=>exact absurd rfl hW0|cons c t=>exact⟨c,t,rfl⟩
 have hcd:isD c=true:=qaW hW c (by rw[hct];exact List.mem_cons_self ..);obtain⟨hc1,hc2⟩:=(qaB c).1 hcd;obtain⟨Y,hY⟩: ∃Y,Y=W++46::T:=⟨_,rfl⟩;have hYc: ∃y,Y=c::y:=⟨t++46::T,by rw[hY,hct];rfl⟩;obtain⟨y,hy⟩:=hYc
 have hYok: ∀b∈Y,isD b=true∨b=46:=by
  intro b hb;rw[hY,List.mem_append,List.mem_cons] at hb;rcases hb with hb|rfl|hb
  ·exact .inl (qaW hW b hb)
  ·exact .inr rfl
  ·exact .inl (qaW hT b hb)
 have hlY:Y.length=W.length+T.length+1:=by rw[hY];simp;omega
 rw[←hY] at h1 h2⊢;have hs1:(sgL s).length≤1:=by cases s<;>simp[sgL]
 rw[List.length_append] at h1 h2;have hz:=qac (sgL s++Y);rw[List.length_append] at hz;obtain⟨X,hX⟩: ∃X,X=BS (sgL s++Y):=⟨_,rfl⟩;have hxd:X.data.toList=sgL s++Y:=by rw[hX];rfl
 rw[←hX] at hz⊢;have hXl:780<X.size:=by omega
 have hX0:0<X.size:=Nat.lt_trans (by decide) hXl;obtain⟨b0,hb0,hBx⟩:=qdd X 0 hX0
 have hb0':b0=if s then 45 else c:=by
  have h:=hb0.out;unfold bt at h;rw[hxd,hy] at h;cases s<;>exact h.symm
 have hfirst:Hid (∃wx:World,True):=Lh ⟨w,trivial⟩
 have cA:=Lh (fun W1=>Tryz.strings_IndexAny_laid (BS Y) ⟨#[101,69]⟩ W1 (by rw[qac];omega) (by decide) (fun j b hb=>by
  rcases hYok b (List.mem_of_getElem? hb)with h|h
  ·have:=(qaB b).1 h;omega
  ·subst h;decide) (fun j b hb=>by
  have:=List.mem_of_getElem? hb;simp at this
  rcases this with rfl|rfl<;>decide))
 have eA:Lib.indexAny (BS Y).data.toList (⟨#[101,69]⟩:ByteArray).data.toList= -1:=qnc Y [101,69] (fun b hb=>by
  rcases hYok b hb with h|h
  ·have:=(qaB b).1 h
   cases hx:([101,69]:List UInt8).contains b with
   |false=>rfl
   |true=>simp at hx;rcases hx with rfl|rfl<;>exact absurd h (by decide)
  ·subst h;decide)
 rw[eA] at cA
 have cC:=Lh (fun (W1:World) (hW1:qmH W1)=>(by
  obtain⟨m,hm⟩:=hW1.m;have h:=Tryz.strings_Cut (BS Y) ⟨#[46]⟩ m W1 (by rw[qac];omega) hm;have e:Lib.cut (BS Y).data.toList (⟨#[46]⟩:ByteArray).data.toList=(W,T,true):=by rw[show(BS Y).data.toList=W++46::T from hY];exact qov W T (qaW hW)
  rw[e] at h
  exact h.mono fun e' w' ⟨q1,n,q2⟩=>⟨q1,show Below W1.heap.size W1 w' from q2▸⟨rfl,rfl,rfl,Nat.le_refl _,fun _ _=>rfl⟩⟩:Calls Tryz.prog 152 #[.string (BS Y),.string ⟨#[46]⟩] W1 fun e w'=>e= .returned (.tuple #[.string (BS W),.string (BS T),.bool true])∧Below W1.heap.size W1 w'))
 have cT:=Lh (fun W1=>qq3 (W++T) W1);rw[show Lib.trimLeftB (W++T) 48=A from hA.symm] at cT;have cI:=Lh (fun (W1:World) (hW1:qmH W1)=>qrY ((A.length:Int) - (T.length:Int)) (by omega) W1 hW1.a.tab);obtain⟨I,hI⟩: ∃I,I=Lib.itoa ((A.length:Int) - (T.length:Int)):=⟨_,rfl⟩
 have hIl:I.length≤30:=by
  rw[hI,qfe,List.length_append];have:=qek 20 ((A.length:Int) - (T.length:Int)).natAbs (by decide) (by omega);have:(sg ((A.length:Int) - (T.length:Int))).length≤1:=by unfold sg;split<;>simp
  omega
 rw[←hI] at cI;have hGh:=Lh hG;have hfin:Hid (shL s A T=sgL s++[48,46]++A++[101]++I):=Lh (by unfold shL sgL;rw[←hI];simp);have hXX:=Lh hX;have hsg1:=Lh hb0';have u1:decide ((X.size:Int)≤780)=false:=dF (by omega);have u1':decide (X.size≤780)=false:=dF (by omega);have hYl:Y.length≤1200:=by omega
 have hWl:W.length≤1200:=by omega
 have hTl:T.length≤1200:=by omega
 replace hz:=Lh hz;replace hA0:=Lh hA0;clear hG hX hxd hb0 hb0' hA hcd hYok hI hfirst eA hlY h1 h2 hs1 hy hct hW0;replace hY:=Lh hY;go_enter Tryz.func130,Tryz.ntmps130;go_upto_region 4 with (fail)
 go_cut [23] (fun s23 wx=>s23= .bool s∧w=wx)
 case first=>
  cases s with
  |true=>
   have hb:=hsg1.out;rw[if_pos rfl] at hb;rw[hb] at hBx;go_wp2_with fail;go_meet;exact⟨rfl,rfl⟩
  |false=>
   have hb:=hsg1.out;rw[if_neg (by decide)] at hb;subst hb;have v1:((b0.toNat:Int)==45)=false:=by simp;omega
   have v2:((b0.toNat:Int)==43)=false:=by simp;omega
   go_wp2_with fail;go_meet;exact⟨rfl,rfl⟩
 case rest=>
  obtain⟨rfl,rfl⟩:=hcut;clear hBx hsg1 u1 u1';go_upto_if 23 with (fail)
  go_cut [0,3] (fun s0 s3 wx=>s0= .string (BS Y)∧s3= .string (BS (sgL s))∧Hid (Below w.heap.size w wx))
  case first=>
   cases s with
   |true=>
    have e1:Hid (X.extract 0 1=BS (sgL true)):=Lh (by rw[hXX.out];apply qbn;simp[BS,sgL]);have e2:Hid (X.extract 1 X.size=BS Y):=Lh (by rw[hz.out,hXX.out];apply qbn;simp[BS,sgL]);have hX1:1≤X.size:=by omega
    go_upto_region 5 with (fail)
    go_quiet (fail);go_wp2_with fail;go_meet;exact⟨by rw[←e2.out],by rw[←e1.out],Lh ⟨rfl,rfl,rfl,Nat.le_refl _,fun _ _=>rfl⟩⟩
   |false=>
    have e2:Hid (X=BS Y):=Lh (by rw[hXX.out];rfl);go_wp2_with fail;go_meet;exact⟨by rw[←e2.out],rfl,Lh (Below.refl _ _)⟩
  case rest=>
   obtain⟨rfl,rfl,B0⟩:=hcut;clear hXX hX0 hXl hz;have hsz:=qac (sgL s);have hsl:(sgL s).length≤1:=by cases s<;>simp[sgL]
   have hYs:=qac Y;have hWs:=qac W;have hTs:=qac T;have hAs:=qac A;have hIs:=qac I;have cat1:BS W++BS T=BS (W++T):=qaM W T;go_wp2_with fail;refine(cA.out _).mono ?_;rintro e w3 ⟨rfl,hb⟩;replace B0:=Lh (B0.out.trans (hb.mono B0.out.size));clear hb cA;go_wp2_with fail;refine(cC.out _ (hGh.out.on B0.out)).mono ?_;rintro e w4 ⟨rfl,hb⟩;replace B0:=Lh (B0.out.trans (hb.mono B0.out.size));clear hb cC;go_wp2_with fail;refine(cT.out _).mono ?_;rintro e w5 ⟨rfl,rfl⟩;clear cT;go_upto_if 54 with (fail)
   obtain⟨bA,hbA⟩: ∃b,Hid (A.isEmpty=b):=⟨_,Lh rfl⟩;rw[hbA.out]
   have hbf:bA=false:=by
    rw[←hbA.out]
    cases A with
    |nil=>exact absurd rfl hA0.out
    |cons x y=>rfl
   subst hbf;rw[show({data:=A.toArray}:ByteArray)=BS A from rfl];have v1:decide ((780:Int)<(A.length:Int))=false:=dF (by omega);have v2:decide (780<A.length)=false:=dF (by omega);obtain⟨L1,hL1⟩: ∃L1,L1=sgL s++[48,46]:=⟨_,rfl⟩;obtain⟨L2,hL2⟩: ∃L2,L2=L1++A:=⟨_,rfl⟩;obtain⟨L3,hL3⟩: ∃L3,L3=L2++[101]:=⟨_,rfl⟩;obtain⟨L4,hL4⟩: ∃L4,L4=L3++I:=⟨_,rfl⟩;have cat2:BS (sgL s)++(⟨#[48,46]⟩:ByteArray)=BS L1:=by rw[hL1];exact qaM _ [48,46]
   have cat3:BS L1++BS A=BS L2:=by rw[hL2];exact qaM _ _
   have cat4:BS L2++(⟨#[101]⟩:ByteArray)=BS L3:=by rw[hL3];exact qaM _ [101]
   have cat5:BS L3++BS I=BS L4:=by rw[hL4];exact qaM _ _
   have z2:=qac L1;have z3:=qac L2;have z4:=qac L3;have q2:L1.length≤3:=by rw[hL1,List.length_append];simp;omega
   have q3:L2.length≤1300:=by rw[hL2,List.length_append];omega
   have q4:L3.length≤1400:=by rw[hL3,List.length_append];simp;omega
   have hfin4:=Lh (hfin.out.trans (by rw[hL4,hL3,hL2,hL1]:_=L4));clear hL1 hL2 hL3 hL4;clear hbA cat1 hYs hWs;go_wp2_with fail;refine(cI.out _ (hGh.out.on B0.out)).mono ?_;rintro e w6 ⟨rfl,hb⟩;replace B0:=Lh (B0.out.trans (hb.mono B0.out.size));clear hb cI;go_wp2_with fail;go_ret;exact⟨Eq.trans (b:=Ending.returned (.string (BS L4))) rfl (by rw[hfin4.out]),B0.out⟩
end Go.Proofs.YtdeimnnpcfncpaaGreatDoor
end
section
namespace Go.Proofs.YtdeimnnpcfncpaaGreatDoor
open Go Go.RowKit Ieee
theorem qiu (w:World):Calls Tryz.prog 73 #[.string (BS [43,73,110,102])] w (qd3 9218868437227405312 0 w):=by
 show Calls Tryz.prog 73 #[.string ⟨#[43,73,110,102]⟩] w _;go_enter Tryz.func73,Tryz.ntmps73;go_wp2_with fail;go_ret2;exact⟨rfl,Below.refl _ _⟩
theorem qik (w:World):Calls Tryz.prog 73 #[.string (BS [45,73,110,102])] w (qd3 18442240474082181120 0 w):=by
 show Calls Tryz.prog 73 #[.string ⟨#[45,73,110,102]⟩] w _;go_enter Tryz.func73,Tryz.ntmps73;go_wp2_with fail;go_ret2;exact⟨rfl,Below.refl _ _⟩
theorem qcV (a:Nat) (ha:a<18446744073709551616) (hn:qdU a=false): ∃s r,a=sgw s+r∧r≤INF:=by
 rw[qsR] at hn
 by_cases g:a<9223372036854775808
 ·exact⟨false,a,by simp[sgw],by omega⟩
 ·exact⟨true,a - 9223372036854775808,by simp only[sgw,if_true];omega,by omega⟩
theorem qcY:qak (sgw false+INF)=[43,73,110,102]:=by
 unfold qak;rw[show kindN (sgw false+INF)=3 by decide+kernel];rfl
theorem qcT:qak (sgw true+INF)=[45,73,110,102]:=by
 unfold qak;rw[show kindN (sgw true+INF)=3 by decide+kernel];rfl
theorem qnr (a:Nat) (ha:a<18446744073709551616) (hn:qdU a=false) (w:World) (hG:qmH w):Calls Tryz.prog 73 #[.string (BS (qak a))] w (qd3 ((a:Nat):Int) 0 w):=by
 obtain⟨s,r,rfl,hr⟩:=qcV a ha hn;rcases Nat.lt_or_ge r INF with hr'|hr'
 ·obtain⟨W,T,hX,hW,hT,hW0,hl,hA,hTl,k1,k2,k3,k4,k5,k6,k7⟩:=qdb s r hr';rcases Nat.lt_or_ge 780 (qak (sgw s+r)).length with hlen|hlen
  ·have hT0:T≠[]:=by
    intro e;have h7:=k7 e;rw[hX,e,if_pos rfl,List.append_nil,List.length_append] at hlen;have h1:(if s=true then [45] else ([]:List UInt8)).length≤1:=by cases s<;>simp
    omega
   rw[if_neg hT0] at hX
   have hA0:stp (W++T)≠[]:=by
    intro e;have:=k6 e;subst this;have e0:(qak (sgw s+0)).length≤2:=by cases s<;>decide+kernel
    omega
   obtain⟨j1,j2,j3⟩:=k5 hA0;have hsh:=fun W1 (hW1:qmH W1)=>qiN s W T hW hT hW0 _ rfl hA0 (by omega) (by rw[←show qak (sgw s+r)=sgL s++(W++46::T)from hX];omega) (by rw[←show qak (sgw s+r)=sgL s++(W++46::T)from hX];omega) W1 hW1
   rw[←show qak (sgw s+r)=sgL s++(W++46::T)from hX] at hsh
   have hsl:(shL s (stp (W++T)) T).length≤2000:=by
    unfold shL;have h1:(if s=true then [45] else ([]:List UInt8)).length≤1:=by cases s<;>simp
    have h2:(Lib.itoa (((stp (W++T)).length:Int) - (T.length:Int))).length≤30:=by
     rw[qfe,List.length_append];have:=qek 20 (((stp (W++T)).length:Int) - (T.length:Int)).natAbs (by decide) (by omega);have:(sg (((stp (W++T)).length:Int) - (T.length:Int))).length≤1:=by unfold sg;split<;>simp
     omega
    simp only[List.length_append,List.length_cons,List.length_nil];omega
   have:=qiU (BS (qak (sgw s+r))) (BS (shL s (stp (W++T)) T)) (by rw[qac];omega) (by rw[qac];omega) k2 k1 j1 j3 w hG.a.p (hsh w hG);rw[show qi6 (BS (shL s (stp (W++T)) T)).data.toList=sgw s+r from j2] at this;exact this
  ·have:=qiG (BS (qak (sgw s+r))) (by rw[qac];omega) k2 k1 k4 w hG.a.p;rw[show qi6 (BS (qak (sgw s+r))).data.toList=sgw s+r from k3] at this;exact this
 ·obtain rfl:=Nat.le_antisymm hr hr';cases s
  ·rw[qcY];exact qiu w
  ·rw[qcT];exact qik w
end Go.Proofs.YtdeimnnpcfncpaaGreatDoor
end
