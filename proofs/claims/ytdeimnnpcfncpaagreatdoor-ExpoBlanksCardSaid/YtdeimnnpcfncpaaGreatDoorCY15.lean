/- Parts of the proof: D10 D13 D14 D20. -/
import Derived.Test.YtdeimnnpcfncpaaGreatDoorCY13
import Derived.Test.YtdeimnnpcfncpaaGreatDoorCY14
set_option linter.unusedVariables false
set_option linter.unusedSimpArgs false
set_option maxRecDepth 100000
set_option maxHeartbeats 64000000
namespace Go.Proofs.YtdeimnnpcfncpaaGreatDoor
open Go Go.RowKit
def v64 (d:Nat) (p:Int):Nat:=if d=0 then 0 else if 310<p then INF else if p< -345 then 0 else qbZ d (p+348).toNat
def AtRet (ng:Bool) (v:Nat) (n:Int) (w:World) (x:Ending) (w':World):Prop:=(∃b,x= .returned (.tuple #[.float .f64 (sgw ng+v),.int .i64 n,qfB b]))∧Below w.heap.size w w'
theorem qfd (ng:Bool): ∃b:Int,IntKind.u64.wrap (b*9223372036854775808)=((sgw ng:Nat):Int)∧ ∀w,Calls Tryz.prog 282 #[.bool ng] w fun e w'=>e= .returned (.int .u64 b)∧w=w':=by
 cases ng
 ·exact⟨0,rfl,fun w=>qbJ false w⟩
 ·exact⟨1,rfl,fun w=>qbJ true w⟩
theorem qdR {s:ByteArray} {a e:Nat} (H:qh6 s a e):dig (bt s a).toNat:=by
 have h1:=H.lt;rcases H.ch a (Nat.le_refl _) h1 with g|g
 ·have:=(qaB _).1 g;exact⟨by omega,by omega⟩
 ·rw[g.1];exact⟨by decide,by decide⟩
theorem qpu (ng:Bool):bits .or .u64 ((sgw ng:Nat):Int) 0=((sgw ng:Nat):Int)∧bits .or .u64 ((sgw ng:Nat):Int) 9218868437227405312=((sgw ng+INF:Nat):Int):=by
 cases ng<;>decide+kernel
theorem qeH (s:ByteArray) (a e:Nat) (ng:Bool) (E:Int) (H:qh6 s a e) (S:Sgn s a ng) (T:Tail s e E) (ht:(mat s a e).trunc=false) (w:World) (hG:qeO w):
 Calls Tryz.prog 263 #[.string s] w (AtRet ng (v64 (mat s a e).mant (qaG (mat s a e) E)) s.size w):=by
 have hz:=H.sz;have hl:=H.lt;have hle:=H.le;have hrf:=qjs s a e ng E H S T w;unfold qiq at hrf;rw[ht] at hrf;have hsp:=Lh (qla s a ng (by omega) hz (by rcases S with h|h;exact .inl h.1;exact .inr h) (qdR H) w);have hm:=(qbR H e (by omega) (Nat.le_refl _)).2.1;obtain⟨d,hd⟩: ∃d,d=(mat s a e).mant:=⟨_,rfl⟩;obtain⟨p,hp⟩: ∃p,p=qaG (mat s a e) E:=⟨_,rfl⟩;rw[←hd] at hm;rw[←hd,←hp] at hrf⊢;replace hrf:=Lh hrf;obtain⟨b,hb1,hb2⟩:=qfd ng;obtain⟨o1,o2⟩:=qpu ng;have hsg:=qjV ng;have hae:=fun (h0:0<d) (h1: -348≤p) (h2:p≤347)=>qqj ng d p h0 (by omega) h1 h2 w hG
 have hpf:=fun (h0:0<d) (h1: -348≤p) (h2:p≤347)=>qfW d (p+348).toNat (sgw ng) h0 (by omega) (by omega) hsg w hG.tab (by have:=hG.big;omega)
 obtain⟨sg,hsgd⟩: ∃sg,sg=sgw ng:=⟨_,rfl⟩;rw[←hsgd] at hb1 o1 o2 hae hpf hsg;have f1:=qpJ (sg:Int) w;have f2:=qpJ ((sg+INF:Nat):Int) w;rw[Int.toNat_natCast] at f1 f2;have opt:=hG.opt;have hAt: ∀v b W,Below w.heap.size w W→v64 d p=v→AtRet ng (v64 d p) s.size w (.returned (.tuple #[.float .f64 (sg+v),.int .i64 s.size,qfB b])) W:=fun v b W hB hv=>by subst hv;rw[hsgd];exact⟨⟨b,rfl⟩,hB⟩
 obtain⟨hi,hhi⟩: ∃hi,hi=sg+INF:=⟨_,rfl⟩;rw[←hhi] at o2 f2;replace hsgd:=Lh hsgd;replace hb2:=Lh hb2;replace hAt:=Lh hAt;clear H S T ht hd hp hG hl hle
 by_cases g0:d=0
 ·have u0:((d:Int)==0)=true:=by simp[g0]
  have hv:Hid (AtRet ng (v64 d p) s.size w (.returned (.tuple #[.float .f64 sg,.int .i64 s.size,.nilIface])) w):=hAt.out 0 false w (Below.refl _ _) (by unfold v64;rw[if_pos g0]);clear hae hpf hAt g0 hhi;go_enter Tryz.func263,Tryz.ntmps263;go_wp2_with fail;refine hsp.out.mono ?_;rintro x w1 ⟨rfl,rfl⟩;go_wp2_with fail;refine hrf.out.mono ?_;rintro x w1 ⟨rfl,rfl⟩;go_wp2_with fail;refine(hb2.out _).mono ?_;rintro x w1 ⟨rfl,rfl⟩;go_wp2_with fail;go_ret3;exact hv.out
 ·have u0:((d:Int)==0)=false:=by simp[g0]
  have d0:0<d:=by omega
  by_cases g1:310<p
  ·have u1:decide ((310:Int)<p)=true:=dT g1;have hv:Hid (AtRet ng (v64 d p) s.size w (.returned (.tuple #[.float .f64 hi,.int .i64 s.size,.iface 287 (.int .i64 1)])) w):=by rw[hhi];exact hAt.out INF true w (Below.refl _ _) (by unfold v64;rw[if_neg g0,if_pos g1])
   clear hhi;clear hae hpf hAt g0;go_enter Tryz.func263,Tryz.ntmps263;go_wp2_with fail;refine hsp.out.mono ?_;rintro x w1 ⟨rfl,rfl⟩;go_wp2_with fail;refine hrf.out.mono ?_;rintro x w1 ⟨rfl,rfl⟩;go_wp2_with fail;refine(hb2.out _).mono ?_;rintro x w1 ⟨rfl,rfl⟩;go_wp2_with fail;go_ret3;exact hv.out
  ·have u1:decide ((310:Int)<p)=false:=dF g1
   by_cases g2:p< -345
   ·have u2:decide (p<(-345:Int))=true:=dT g2;have hv:Hid (AtRet ng (v64 d p) s.size w (.returned (.tuple #[.float .f64 sg,.int .i64 s.size,.nilIface])) w):=hAt.out 0 false w (Below.refl _ _) (by unfold v64;rw[if_neg g0,if_neg g1,if_pos g2]);clear hae hpf hAt g0 g1 g2 hhi;go_enter Tryz.func263,Tryz.ntmps263;go_wp2_with fail;refine hsp.out.mono ?_;rintro x w1 ⟨rfl,rfl⟩;go_wp2_with fail;refine hrf.out.mono ?_;rintro x w1 ⟨rfl,rfl⟩;go_wp2_with fail;refine(hb2.out _).mono ?_;rintro x w1 ⟨rfl,rfl⟩;go_wp2_with fail;go_ret3;exact hv.out
   ·have u2:decide (p<(-345:Int))=false:=dF g2;have hv:=fun b W hB=>hAt.out (qbZ d (p+348).toNat) b W hB (by unfold v64;rw[if_neg g0,if_neg g1,if_neg g2])
    have hae':=Lh (hae d0 (by omega) (by omega));have hpf':=Lh (hpf d0 (by omega) (by omega));rw[show((p+348).toNat:Int) - 348=p by omega] at hpf';obtain⟨F,hF⟩: ∃F,F=qbZ d (p+348).toNat:=⟨_,rfl⟩;rw[←hF] at hv hae' hpf';have hv0: ∀W,Below w.heap.size w W→AtRet ng (v64 d p) s.size w (.returned (.tuple #[.float .f64 (sg+F),.int .i64 s.size,.nilIface])) W:=fun W hB=>hv false W hB
    obtain⟨er,her⟩: ∃er,er=qfB (decide (F=INF)):=⟨_,rfl⟩;have hv1: ∀W,Below w.heap.size w W→AtRet ng (v64 d p) s.size w (.returned (.tuple #[.float .f64 (sg+F),.int .i64 s.size,er])) W:=fun W hB=>by rw[her];exact hv _ W hB
    unfold qms at hpf';rw[←her] at hpf';obtain⟨Q,hQ⟩: ∃Q,Q=sg+F:=⟨_,rfl⟩;rw[←hQ] at hv0 hv1 hpf' hae';replace hv0:=Lh hv0;replace hv1:=Lh hv1;clear hae hpf hAt g0 g1 g2 her hF hv hhi hQ;go_enter Tryz.func263,Tryz.ntmps263;go_wp2_with fail;refine hsp.out.mono ?_;rintro x w1 ⟨rfl,rfl⟩;go_wp2_with fail;refine hrf.out.mono ?_;rintro x w1 ⟨rfl,rfl⟩;go_wp2_with fail;refine(hb2.out _).mono ?_;rintro x w1 ⟨rfl,rfl⟩;go_wp2_with fail;refine hae'.out.mono ?_;rintro x w1 ⟨⟨f,ok,rfl,hok⟩,rfl⟩
    cases ok with
    |true=>
     obtain rfl:=hok rfl;go_wp2_with fail;go_ret3;exact hv0.out _ (Below.refl _ _)
    |false=>
     clear hok;go_wp2_with fail;refine hpf'.out.mono ?_;rintro x w1 ⟨rfl,hB⟩;replace hB:=Lh hB;go_wp2_with fail;go_ret3;exact hv1.out _ hB.out
structure qj9 (w:World):Prop where
 f:qeO w
 er: ∃ev,w.cell? ⟨6,0,none⟩=some ev∧(ev= .nilIface∨ ∃te pe,ev= .iface te pe)
theorem qj9.on {w W:World} (h:qj9 w) (hb:Below w.heap.size w W):qj9 W:=by
 refine⟨h.f.on hb,?_⟩;obtain⟨ev,h1,h2⟩:=h.er;exact⟨ev,by rw[hb.cell (p:=⟨6,0,none⟩) (by have:=h.f.big;show 6<_;omega)];exact h1,h2⟩
def qsM (f:Nat) (w:World) (x:Ending) (w':World):Prop:=(∃er,x= .returned (.tuple #[.float .f64 f,er]))∧Below w.heap.size w w'
theorem qdZ (s:ByteArray) (hs:s.size≤2000) (ng:Bool) (v:Nat) (w:World) (hG:qj9 w) (h: ∀W,qeO W→Calls Tryz.prog 263 #[.string s] W (AtRet ng v s.size W)):
 Calls Tryz.prog 129 #[.string s,.int .i64 64] w (qsM (sgw ng+v) w):=by
 obtain⟨f,hf⟩: ∃f,f=sgw ng+v:=⟨_,rfl⟩;unfold AtRet at h;rw[←hf] at h⊢;have h1:=Lh (h w hG.f)
 have h96:Hid (Calls Tryz.prog 237 #[.string s,.int .i64 64] w (fun x w'=>(∃b,x= .returned (.tuple #[.float .f64 f,.int .i64 s.size,qfB b]))∧Below w.heap.size w w')):=by
  clear hf h hG;go_enter Tryz.func237,Tryz.ntmps237;go_wp2_with fail;refine h1.out.mono ?_;rintro x w1 ⟨⟨b,rfl⟩,hB⟩;cases b
  ·have hB':=Lh hB;clear hB;go_wp2_with fail;go_ret3;exact⟨⟨false,rfl⟩,hB'.out⟩
  ·have hB':=Lh hB;clear hB;go_wp2_with fail;go_ret3;exact⟨⟨true,rfl⟩,hB'.out⟩
 have h64:Hid (Calls Tryz.prog 184 #[.string s,.int .i64 64] w (fun x w'=>(∃b,x= .returned (.tuple #[.float .f64 f,qfB b]))∧Below w.heap.size w w')):=by
  clear hf h hG h1;go_enter Tryz.func184,Tryz.ntmps184;go_wp2_with fail;refine h96.out.mono ?_;rintro x w1 ⟨⟨b,rfl⟩,hB⟩;cases b
  ·have hB':=Lh hB;clear hB;go_wp2_with fail;go_ret2;exact⟨⟨false,rfl⟩,hB'.out⟩
  ·have hB':=Lh hB;clear hB;go_wp2_with fail;go_ret2;exact⟨⟨true,rfl⟩,hB'.out⟩
 have hte:Hid (∀W,Below w.heap.size w W→Calls Tryz.prog 185 #[.string ⟨#[80,97,114,115,101,70,108,111,97,116]⟩,.string s,.int .i64 0,.int .i64 64,.iface 287 (.int .i64 1)] W (fun x w'=> ∃er,x= .returned er∧Below W.heap.size W w')):=by
  intro W hB;obtain⟨ev,e1,e2⟩:=(hG.on hB).er;refine(Tryz.strconv_toError_range _ s 0 64 ev W (by omega) e1 e2).mono ?_;rintro x w' ⟨N,rfl,_,_,hb⟩;exact⟨_,rfl,hb⟩
 clear hf h hG h1 h96;go_enter Tryz.func129,Tryz.ntmps129;go_wp2_with fail;refine h64.out.mono ?_;rintro x w1 ⟨⟨b,rfl⟩,hB⟩;cases b
 ·have hB':=Lh hB;clear hB;rw[show qfB false=Value.nilIface from rfl];go_wp2_with fail;go_ret2;exact⟨⟨_,rfl⟩,hB'.out⟩
 ·have hB':=Lh hB;have ht:=Lh (hte.out w1 hB);clear hB hte;rw[show qfB true=Value.iface 287 (.int .i64 1)from rfl];go_wp2_with fail;refine ht.out.mono ?_;rintro x w2 ⟨er,rfl,hb2⟩;have hB2:=Lh (hB'.out.trans (hb2.mono hB'.out.size));clear hb2;go_wp2_with fail;go_ret2;exact⟨⟨_,rfl⟩,hB2.out⟩
theorem qtu (n:Nat) (w:World):(callFunc 131 #[.float .f64 n]).run Tryz.prog w= .ok (.value (.int .u64 (n:Int))) w:=by
 rw[run_callFunc_extern (e:=Extern.MathFloatBits.float64bits) Tryz.func131 (by kernel_rfl) (by kernel_rfl) (by kernel_rfl) (by kernel_rfl)];rfl
theorem qjD (s:ByteArray) (hs:s.size≤780) (w:World):Calls Tryz.prog 130 #[.string s] w fun e w'=>e= .returned (.string s)∧w=w':=by
 have u1:decide ((s.size:Int)≤780)=true:=dT (by omega);have u1':decide (s.size≤780)=true:=dT hs;go_enter Tryz.func130,Tryz.ntmps130;go_wp2_with fail;go_ret;exact⟨rfl,rfl⟩
def qd3 (v e:Int) (w:World) (x:Ending) (w':World):Prop:=x= .returned (.tuple #[.int .u64 v,.int .i64 e])∧Below w.heap.size w w'
def qbt (l:List UInt8):Bool:=(l==[73,110,102])||(l==[43,73,110,102])||(l==[45,73,110,102])||(l==[78,97,78])
theorem qlb (s:ByteArray) (hs:1200<s.size) (w:World):Calls Tryz.prog 73 #[.string s] w (qd3 0 3 w):=by
 have u1:decide ((1200:Int)<(s.size:Int))=true:=dT (by omega);have u1':decide (1200<s.size)=true:=dT hs;go_enter Tryz.func73,Tryz.ntmps73;go_wp2_with fail;go_ret2;exact⟨rfl,Below.refl _ _⟩
theorem qlh (s:ByteArray) (h:qbt s.data.toList=false):(s.toList==[73,110,102])=false∧(s.toList==[43,73,110,102])=false∧(s.toList==[45,73,110,102])=false∧(s.toList==[78,97,78])=false:=by
 rw[ByteArray.toList_eq];unfold qbt at h;simp only[Bool.or_eq_false_iff] at h;exact⟨h.1.1.1,h.1.1.2,h.1.2,h.2⟩
theorem qnv (s:ByteArray) (hs:s.size≤1200) (h1:qbt s.data.toList=false) (h2:qaE s.data.toList=false) (w:World):Calls Tryz.prog 73 #[.string s] w (qd3 0 210 w):=by
 have u1:decide ((1200:Int)<(s.size:Int))=false:=dF (by omega);have u1':decide (1200<s.size)=false:=dF (by omega);obtain⟨n1,n2,n3,n4⟩:=qlh s h1;have c1:=qdV s (by omega) w;rw[h2] at c1;replace c1:=Lh c1;clear h1 h2;go_enter Tryz.func73,Tryz.ntmps73;go_wp2_with fail;refine c1.out.mono ?_;rintro x w1 ⟨rfl,rfl⟩;go_wp2_with fail;go_ret2;exact⟨rfl,Below.refl _ _⟩
theorem qgr (s:ByteArray) (hs:s.size≤780) (h1:qbt s.data.toList=false) (h2:qaE s.data.toList=true) (ng:Bool) (v:Nat) (w:World) (hG:qj9 w) (h: ∀W,qeO W→Calls Tryz.prog 263 #[.string s] W (AtRet ng v s.size W)):
 Calls Tryz.prog 73 #[.string s] w (qd3 ((sgw ng+v:Nat):Int) 0 w):=by
 have u1:decide ((1200:Int)<(s.size:Int))=false:=dF (by omega);have u1':decide (1200<s.size)=false:=dF (by omega);obtain⟨n1,n2,n3,n4⟩:=qlh s h1;have c1:=qdV s (by omega) w;rw[h2] at c1;replace c1:=Lh c1;have c2:=Lh (qjD s hs w);have c3:=Lh (qdZ s (by omega) ng v w hG h);obtain⟨f,hf⟩: ∃f,f=sgw ng+v:=⟨_,rfl⟩;rw[←hf] at c3⊢;clear h1 h2 hG h hf;go_enter Tryz.func73,Tryz.ntmps73;go_wp2_with fail;refine c1.out.mono ?_;rintro x w1 ⟨rfl,rfl⟩;go_wp2_with fail;refine c2.out.mono ?_;rintro x w1 ⟨rfl,rfl⟩;go_wp2_with fail;refine c3.out.mono ?_;rintro x w1 ⟨⟨er,rfl⟩,hB⟩;have hB':=Lh hB;have hb:=qtu f w1;clear hB;go_wp2_with fail;go_ret2;exact⟨rfl,hB'.out⟩
def qi6 (l:List UInt8):Nat:=sgw (ngL l)+v64 (qbW (qdf l)).mant (qaG (qbW (qdf l)) (qi5 (tlL l)))
def exE (v:Nat):Nat:=if v/4503599627370496%2048=0 then 1 else v/4503599627370496%2048
def exF (v:Nat):Nat:=if v/4503599627370496%2048=0 then v%4503599627370496 else 4503599627370496+v%4503599627370496
def exD (v:Nat):List UInt8×Nat:=if 0<exF v then qp5 (1075 - exE v) (qlw (exE v - 1075) (Lib.decDigits (exF v))) 0 else (qlw (exE v - 1075) (Lib.decDigits (exF v)),0)
def exW (v:Nat):List UInt8:=Lib.trimLeftB ((exD v).1.take ((exD v).1.length - (exD v).2)) 48
def exT (v:Nat):List UInt8:=Lib.trimRightB ((exD v).1.drop ((exD v).1.length - (exD v).2)) 48
def qak (v:Nat):List UInt8:=
 if kindN v=4 then [78,97,78] else if kindN v=3 then (if 9223372036854775808≤v then [45,73,110,102] else [43,73,110,102])
 else (if 9223372036854775808≤v then [45] else [])++((if exW v=[] then [48] else exW v)++(if exT v=[] then [] else 46::exT v))
theorem qgd (v:Nat) (hv:v<18446744073709551616) (w:World) (htab:Lib.TabIs Tryz.prog w "internal/strconv.uint64pow10" .u64 Lib.pow10Tab):
 Calls Tryz.prog 25 #[.int .u64 v] w fun e w'=>e= .returned (.string ⟨(qak v).toArray⟩)∧Below w.heap.size w w':=by
 have c:=Lh (qfA v hv w);have hmf: ∀(fn:Fn) (first cap:Array Value) (w:World),(Instr.makeFunc fn first cap).run Tryz.prog w= .ok (.func fn first cap) w:=fun _ _ _ _=>rfl
 have cp:=Lh (qfD v hv w);have hx2:v/4503599627370496%2048<2048:=Nat.mod_lt _ (by decide);have hy2:v%4503599627370496<4503599627370496:=Nat.mod_lt _ (by decide);have tb:=qpW v hv
 by_cases g1:kindN v=4
 ·have hfin:qak v=[78,97,78]:=by unfold qak;rw[if_pos g1]
  rw[hfin];rw[g1] at c;clear g1 hfin cp tb;go_enter Tryz.func25,Tryz.ntmps25;go_wp2_with fail;refine c.out.mono ?_;rintro z w1 ⟨rfl,rfl⟩;go_wp2_with fail;go_ret;exact⟨rfl,Below.refl _ _⟩
 ·by_cases g2:kindN v=3
  ·have hfin:qak v=if 9223372036854775808≤v then [45,73,110,102] else [43,73,110,102]:=by unfold qak;rw[if_neg g1,if_pos g2]
   rw[hfin];rw[g2] at c;clear g1 g2 hfin cp
   by_cases gs:9223372036854775808≤v
   ·rw[if_pos gs] at tb⊢;clear gs;go_enter Tryz.func25,Tryz.ntmps25;go_wp2_with fail;refine c.out.mono ?_;rintro z w1 ⟨rfl,rfl⟩;go_wp2_with fail;go_ret;exact⟨rfl,Below.refl _ _⟩
   ·rw[if_neg gs] at tb⊢;clear gs;go_enter Tryz.func25,Tryz.ntmps25;go_wp2_with fail;refine c.out.mono ?_;rintro z w1 ⟨rfl,rfl⟩;go_wp2_with fail;go_ret;exact⟨rfl,Below.refl _ _⟩
  ·have hfin:=Lh (show qak v=(if 9223372036854775808≤v then [45] else [])++((if exW v=[] then [48] else exW v)++(if exT v=[] then [] else 46::exT v)) by unfold qak;rw[if_neg g1,if_neg g2]);replace tb:=Lh tb;have u1:((kindN v:Int)==4)=false:=by simp;omega
   have u2:((kindN v:Int)==3)=false:=by simp;omega
   obtain⟨k,hk⟩: ∃k,k=kindN v:=⟨_,rfl⟩;rw[←hk] at c u1 u2;clear g1 g2 hk;obtain⟨x,hx⟩: ∃x,x=v/4503599627370496%2048:=⟨_,rfl⟩;obtain⟨y,hy⟩: ∃y,y=v%4503599627370496:=⟨_,rfl⟩;obtain⟨E,hE⟩: ∃E,E=exE v:=⟨_,rfl⟩;obtain⟨F,hF⟩: ∃F,F=exF v:=⟨_,rfl⟩;have hEF:Hid (E=(if x=0 then 1 else x)∧F=(if x=0 then y else 4503599627370496+y)):=Lh ⟨by rw[hE,hx];rfl,by rw[hF,hx,hy];rfl⟩;rw[←hx,←hy] at cp;rw[←hx] at hx2;rw[←hy] at hy2;replace hE:=Lh hE;replace hF:=Lh hF;clear hx hy;go_enter Tryz.func25,Tryz.ntmps25;go_wp2_with fail;refine c.out.mono ?_;rintro z w1 ⟨rfl,rfl⟩;go_wp2_with fail;refine cp.out.mono ?_;rintro z w1 ⟨rfl,rfl⟩;go_upto_if 26 with (fail)
   go_cut [3,4] (fun s3 s4 wx=>s3= .int .i64 (E:Int)∧s4= .int .u64 (F:Int)∧w=wx)
   case first=>
    by_cases g:x=0
    ·have hh:=hEF.out;rw[if_pos g,if_pos g] at hh;obtain⟨rfl,rfl⟩:=hh;have u3:((x:Int)==0)=true:=by simp[g]
     clear g hEF hE hF;go_wp2_with fail;go_meet;exact⟨rfl,rfl,rfl⟩
    ·have hh:=hEF.out;rw[if_neg g,if_neg g] at hh;obtain⟨h1,h2⟩:=hh;have u3:((x:Int)==0)=false:=by simp;exact g
     have b1:bits .or .u64 (y:Int) 4503599627370496=(F:Int):=by
      rw[h2];refine Eq.trans (u64_or_nat y 4503599627370496 (by omega) (by decide)) ?_;have:=Nat.two_pow_add_eq_or_of_lt (i:=52) hy2 1;rw[Nat.mul_one,Nat.or_comm] at this;exact congrArg _ this.symm
     have H1:=Lh h1;clear g hEF hE hF h2 h1;go_wp2_with fail;go_meet;exact⟨by rw[H1.out],rfl,rfl⟩
   case rest=>
    obtain⟨rfl,rfl,rfl⟩:=hcut;have hF1:F<18446744073709551616:=by have:=hEF.out.2;split at this<;>omega
    have hE1:1≤E∧E≤2047:=by have:=hEF.out.1;split at this<;>omega
    obtain⟨hE1,hE2⟩:=hE1;have cf:=Lh (qtf F hF1 w htab);clear hEF hx2 hy2 c cp u1 u2;go_wp2_with fail;refine cf.out.mono ?_;rintro z w1 ⟨rfl,hB⟩;obtain⟨S,hS⟩: ∃S:ByteArray,Hid (S=⟨(Lib.decDigits F).toArray⟩):=⟨_,Lh rfl⟩;rw[←hS.out];have hcv:=Lib.run_convert_string_bytes (P:=Tryz.prog) w1 9 78 5 S Tryz.underlying9 Tryz.underlying78 Tryz.underlying5;obtain⟨W2,hW2⟩: ∃W2,W2=Lib.bytesWorld w1 5 S:=⟨_,rfl⟩;obtain⟨cp0,hcp0⟩: ∃cp0,cp0=grownCap w1 S.size 0 5:=⟨_,rfl⟩;obtain⟨g0,hg0⟩: ∃g0,g0=w1.heap.size:=⟨_,rfl⟩;rw[←hW2,←hcp0,←hg0] at hcv;have hdl:(Lib.decDigits F).length≤20:=qmd F hF1;have hdg:qaR (Lib.decDigits F):=qci F;obtain⟨hN,hB3⟩:=qlr w1 w.heap.size S (Lib.decDigits F) (by rw[hS.out]) hB.size (by omega) W2 hW2;rw[←hcp0,←hg0] at hN hB3;obtain⟨nb,hnb⟩: ∃nb,nb=W2.heap.size:=⟨_,rfl⟩;have hnbB:w.heap.size≤nb:=by rw[hnb,hW2,Lib.bytesWorld_size];have:=hB.size;omega
    rw[←hnb] at hN;obtain⟨W3,hW3⟩: ∃W3,W3=(W2.alloc (.cells #[.slice (some ⟨g0,0,none⟩) S.size cp0] 78)).alloc (.cells #[.int .i64 0] 3):=⟨_,rfl⟩;rw[←hW3] at hN hB3;replace hnb:=Lh hnb;replace hW3:=Lh hW3;replace hN:=Lh hN;replace hB3:=Lh (hB.trans (hB3.mono (Nat.le_refl _)));replace hB:=Lh hB;replace hW2:=Lh hW2;replace hcp0:=Lh hcp0;replace hg0:=Lh hg0;go_wp2_with fail;rw[←hW3.out,←hnb.out];obtain⟨L0,hL0⟩: ∃L0,Hid (L0=qlw (E - 1075) (Lib.decDigits F)):=⟨_,Lh rfl⟩;go_loopg [3] (E+1) (fun gk s3 wx=> ∃(e:Nat) (l:List UInt8),e<gk∧s3= .int .i64 (e:Int)∧e≤E∧min E 1075≤e∧l.length≤20+(E - e)∧Hid (qaR l)∧Hid (qlw (e - 1075) l=L0)∧Hid (qdQ wx w.heap.size nb (nb+1) l 0)∧Hid (Below w.heap.size w wx))
    case atStart=>exact⟨E,_,by omega,rfl,by omega,by omega,by omega,Lh hdg,Lh hL0.out.symm,hN,hB3⟩
    case round=>
     obtain⟨e,l,heg,rfl,heE,hem,hll,hDg,hDb,hNA,hBB⟩:=hrel
     by_cases h75:1075<e
     ·have u5:decide ((1075:Int)<(e:Int))=true:=dT (by omega);have u5':decide (1075<e)=true:=dT h75;have hdc:=Lh (qiW w.heap.size nb (nb+1) l 0 wr (by omega) hDg.out hNA.out hnbB (by omega));go_wp2_with fail;refine hdc.out.mono ?_;rintro z w4 ⟨rfl,hN2,hb2⟩;have hNn:=Lh hN2;have hBn:=Lh (hBB.out.trans hb2);have hl2:=qj2 l hDg.out
      have hs2:Hid (qlw (e - 1 - 1075) (qgC l)=L0):=Lh (by
       have:=hDb.out;rw[show e - 1075=(e - 1 - 1075)+1 by omega] at this
       exact this)
      obtain⟨hl3,hl4,hl5⟩:=hl2;replace hl3:=Lh hl3;clear hN2 hb2 hdc;go_wp2_with fail;go_roundg (gk - 1)
      case measure=>omega
      case rel=>exact⟨e - 1,qgC l,by omega,by go_num,by omega,by omega,by omega,hl3,hs2,hNn,hBn⟩
     ·have u5:decide ((1075:Int)<(e:Int))=false:=dF (by omega);have u5':decide (1075<e)=false:=dF h75
      have hlL:l=L0:=by
       have:=hDb.out;rw[show e - 1075=0 by omega] at this;exact this
      subst hlL;go_upto_block 3 with (fail)
      obtain⟨R,hR⟩: ∃R:List UInt8×Nat,Hid (R=if 0<F then qp5 (1075 - e) l 0 else (l,0)):=⟨_,Lh rfl⟩;go_cut [3] (fun _ wx=>Hid (∃(l2:List UInt8) (q:Nat),R=(l2,q)∧q≤l2.length∧l2.length≤2000∧qaR l2∧qdQ wx w.heap.size nb (nb+1) l2 q∧Below w.heap.size w wx))
      case first=>
       go_wp2_with fail;go_loopg [3] 1076 (fun gk s3 wx=> ∃(f q:Nat) (l2:List UInt8),1075 - f<gk∧s3= .int .i64 (f:Int)∧e≤f∧f≤1075∧q≤f - e∧q≤l2.length∧l2.length≤20+(E - e)+(f - e)∧Hid (qaR l2)∧Hid ((if 0<F then qp5 (1075 - f) l2 q else (l2,q))=R)∧Hid (qdQ wx w.heap.size nb (nb+1) l2 q)∧Hid (Below w.heap.size w wx))
       case atStart=>exact⟨e,0,l,by omega,rfl,by omega,by omega,by omega,by omega,by omega,hDg,Lh hR.out.symm,hNA,hBB⟩
       case round=>
        obtain⟨f,q,l2,hfg,rfl,hef,hf75,hqf,hql0,hl2,hDg2,hR2,hNA2,hBB2⟩:=hrel
        by_cases hgo:f<1075∧0<F
        ·obtain⟨h75f,hF0⟩:=hgo;have u6:decide ((f:Int)<1075)=true:=dT (by omega);have u6':decide (f<1075)=true:=dT h75f;have u7:decide ((0:Int)<(F:Int))=true:=dT (by omega);have u7':decide (0<F)=true:=dT hF0;have hhc:=Lh (qjv w.heap.size nb (nb+1) l2 q wr (by omega) (by omega) hDg2.out hNA2.out hnbB (by omega) (by omega));go_wp2_with fail;refine hhc.out.mono ?_;rintro z w4 ⟨rfl,hN2,hb2⟩;have hNn:=Lh hN2;have hBn:=Lh (hBB2.out.trans hb2);obtain⟨hl3,hl4⟩:=qja l2 hDg2.out;have hk1:qeE l2≤1:=by unfold qeE;split<;>omega
         have hs2:Hid ((if 0<F then qp5 (1075 - (f+1)) (qfw l2) (q+qeE l2) else (qfw l2,q+qeE l2))=R):=Lh (by
          have:=hR2.out;rw[if_pos hF0,show 1075 - f=(1075 - (f+1))+1 by omega] at this
          rw[if_pos hF0];exact this)
         replace hl3:=Lh hl3;replace hl4:(qfw l2).length≤l2.length+1∧q+qeE l2≤(qfw l2).length:=⟨by omega,by omega⟩;obtain⟨hl4,hl5⟩:=hl4;clear hN2 hb2 hhc;go_wp2_with fail;go_roundg (gk - 1)
         case measure=>omega
         case rel=>exact⟨f+1,q+qeE l2,qfw l2,by omega,by go_num,by omega,by omega,by omega,by omega,by omega,hl3,hs2,hNn,hBn⟩
        ·have hRl:R=(l2,q):=by
          have:=hR2.out
          by_cases h0:0<F
          ·rw[if_pos h0,show 1075 - f=0 by omega] at this;exact this.symm
          ·rw[if_neg h0] at this;exact this.symm
         have hfin:Hid (∃(l2:List UInt8) (q:Nat),R=(l2,q)∧q≤l2.length∧l2.length≤2000∧qaR l2∧qdQ wr w.heap.size nb (nb+1) l2 q∧Below w.heap.size w wr):=Lh ⟨l2,q,hRl,hql0,by omega,hDg2.out,hNA2.out,hBB2.out⟩;clear hRl hR2
         by_cases h75f:f<1075
         ·have u6:decide ((f:Int)<1075)=true:=dT (by omega);have u6':decide (f<1075)=true:=dT h75f;have u7:decide ((0:Int)<(F:Int))=false:=dF (by omega);have u7':decide (0<F)=false:=dF (by omega);clear hgo;go_wp2_with fail;go_meet;exact hfin
         ·have u6:decide ((f:Int)<1075)=false:=dF (by omega);have u6':decide (f<1075)=false:=dF h75f;clear hgo;go_wp2_with fail;go_meet;exact hfin
      case rest=>
       obtain⟨l2,q,hRq,hql,hl2k,hDg2,hNA2,hBB2⟩:=hcut.out;obtain⟨⟨g,cap,hrow,hnbc⟩,hbeh⟩:=hNA2;have hcap:=hrow.cap1;have hcapm:=hrow.cap2;have c5:=cell_of_heap hnbc;have c6:=cell_of_heap hbeh;have p1:=hrow.piece rfl 0 (l2.length - q) (by omega) 0 cap (.inl rfl);have hRh:=Lh hRq;have hBh:=Lh hBB2;have hRowh:=Lh hrow;clear hRq hBB2 hrow hNA hBB hcut hnbc hbeh hDg2;have t1:=Lh (fun W=>qq3 (List.take (l2.length - q) (List.drop 0 l2)) W);go_wp2_with fail;refine(t1.out _).mono ?_;rintro z w4 ⟨rfl,rfl⟩;obtain⟨A,hA⟩: ∃A,Hid (A=Lib.trimLeftB (List.take (l2.length - q) (List.drop 0 l2)) 48):=⟨_,Lh rfl⟩;rw[←hA.out];clear t1 p1;go_upto_if 59 with (fail)
       obtain⟨X,hX⟩: ∃X:List UInt8,Hid (X=if A=[] then [48] else A):=⟨_,Lh rfl⟩;obtain⟨bA,hbA⟩: ∃b,Hid (A.isEmpty=b):=⟨_,Lh rfl⟩;rw[hbA.out];go_cut [9] (fun s9 wx=>s9= .string ⟨X.toArray⟩∧wc=wx)
       case first=>
        cases bA
        ·have hX3:Hid (X=A):=Lh (by rw[hX.out,if_neg (fun e=>by have:=hbA.out;rw[e] at this;cases this)]);clear hX hbA hA;go_wp2_with fail;go_meet;exact⟨by rw[hX3.out],rfl⟩
        ·have hX3:Hid (X=[48]):=Lh (by rw[hX.out,if_pos (List.isEmpty_iff.1 hbA.out)]);clear hX hbA hA;go_wp2_with fail;go_meet;exact⟨by rw[hX3.out],rfl⟩
       case rest=>
        obtain⟨rfl,rfl⟩:=hcut;obtain⟨T,hT⟩: ∃T,Hid (T=Lib.trimRightB (List.drop (l2.length - q) l2) 48):=⟨_,Lh rfl⟩;have t2:=Lh (fun W=>qtl (List.drop (l2.length - q) l2) (by rw[List.length_drop];omega) W);rw[←hT.out] at t2;go_upto_region 25 with (fail)
        go_cut [10] (fun s10 wx=>s10= .string ⟨T.toArray⟩∧wc=wx)
        case first=>
         by_cases hcq:cap=l2.length - q
         ·have p2:=hRowh.out.piece rfl (l2.length - q) (l2.length - (l2.length - q)) (by omega) 0 0 (.inr (by omega));rw[List.take_of_length_le (by rw[List.length_drop];omega)] at p2;clear hRowh hA hX hT;go_wp2_with fail;refine(t2.out _).mono ?_;rintro z w4 ⟨rfl,rfl⟩;go_wp2_with fail;go_meet;exact⟨rfl,rfl⟩
         ·have p2:=hRowh.out.piece rfl (l2.length - q) (l2.length - (l2.length - q)) (by omega) (l2.length - q) (cap - (l2.length - q)) (.inl rfl);rw[List.take_of_length_le (by rw[List.length_drop];omega)] at p2;clear hRowh hA hX hT;go_wp2_with fail;refine(t2.out _).mono ?_;rintro z w4 ⟨rfl,rfl⟩;go_wp2_with fail;go_meet;exact⟨rfl,rfl⟩
        case rest=>
         obtain⟨rfl,rfl⟩:=hcut;clear t2 hRowh c5 c6 hcap hcapm;obtain⟨Y,hY⟩: ∃Y:List UInt8,Hid (Y=X++if T=[] then [] else 46::T):=⟨_,Lh rfl⟩
         have hXl:X.length≤2001:=by
          have:=qmW (List.take (l2.length - q) (List.drop 0 l2));rw[←hA.out,List.length_take,List.drop_zero] at this;rw[hX.out];split
          ·simp
          ·omega
         have hTl:T.length≤2000:=by
          have:=qlU (List.drop (l2.length - q) l2);rw[←hT.out,List.length_drop] at this;omega
         have hYl:Y.length≤4002:=by
          rw[hY.out,List.length_append];split
          ·simp;omega
          ·simp;omega
         obtain⟨bT,hbT⟩: ∃b,Hid (T.isEmpty=b):=⟨_,Lh rfl⟩;go_upto_if 69 with (fail)
         rw[hbT.out];go_cut [9] (fun s9 wx=>s9= .string ⟨Y.toArray⟩∧wc=wx)
         case first=>
          cases bT
          ·have hY3:Hid ((⟨X.toArray⟩:ByteArray)++((⟨#[46]⟩:ByteArray)++⟨T.toArray⟩)=⟨Y.toArray⟩):=Lh (by rw[hY.out,if_neg (fun e=>by have:=hbT.out;rw[e] at this;cases this)];apply qj8;simp);clear hX hbA hA hbT hT hY;go_wp2_with fail;go_meet;exact⟨by rw[←hY3.out],rfl⟩
          ·have hY3:Hid (Y=X):=Lh (by rw[hY.out,if_pos (List.isEmpty_iff.1 hbT.out),List.append_nil]);clear hX hbA hA hbT hT hY;go_wp2_with fail;go_meet;exact⟨by rw[hY3.out],rfl⟩
         case rest=>
          obtain⟨rfl,rfl⟩:=hcut
          have hall:Hid (qak v=(if 9223372036854775808≤v then [45] else [])++Y):=Lh (by
           have eF:=hF.out;have eE:=hE.out
           have eR:exD v=(l2,q):=by
            rw[←hRh.out,hR.out];unfold exD;rw[←eF,←eE,hL0.out,show 1075 - E=1075 - e by omega]
           have eW:exW v=A:=by unfold exW;rw[eR,hA.out];rfl
           have eT:exT v=T:=by unfold exT;rw[eR,hT.out]
           rw[hfin.out,eW,eT,hY.out,hX.out])
          clear hX hbA hA hbT hT hY hR hRh hE hF hL0 hDb hfin
          by_cases gs:9223372036854775808≤v
          ·have hx:Hid ((⟨#[45]⟩:ByteArray)++⟨Y.toArray⟩=⟨(qak v).toArray⟩):=Lh (by rw[hall.out,if_pos gs];apply qj8;simp);replace tb:bits .and .u64 (v:Int) 9223372036854775808=9223372036854775808:=by rw[tb.out,if_pos gs]
           clear gs hall;go_wp2_with fail;go_ret;exact⟨Eq.trans (b:=Ending.returned (.string ((⟨#[45]⟩:ByteArray)++⟨Y.toArray⟩))) rfl (by rw[hx.out]),hBh.out⟩
          ·have hx:Hid ((⟨Y.toArray⟩:ByteArray)=⟨(qak v).toArray⟩):=Lh (by rw[hall.out,if_neg gs];rfl);replace tb:bits .and .u64 (v:Int) 9223372036854775808=0:=by rw[tb.out,if_neg gs]
           clear gs hall;go_wp2_with fail;go_ret;exact⟨Eq.trans (b:=Ending.returned (.string (⟨Y.toArray⟩:ByteArray))) rfl (by rw[hx.out]),hBh.out⟩
end Go.Proofs.YtdeimnnpcfncpaaGreatDoor
