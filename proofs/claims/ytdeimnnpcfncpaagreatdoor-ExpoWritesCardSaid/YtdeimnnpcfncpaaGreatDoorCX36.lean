/- Parts of the proof: P0 P1 P2 LH. -/
import Derived.Test.YtdeimnnpcfncpaaGreatDoorCX34
set_option linter.unusedVariables false
set_option linter.unusedSimpArgs false
set_option maxRecDepth 100000
set_option maxHeartbeats 64000000
section
namespace Go.Proofs.YtdeimnnpcfncpaaGreatDoor.X
open Go Go.RowKit
def qbe (l:List UInt8):List UInt8:=tb (wr (tb (if ((tb l).head?==some 35)=true then (tb l).tail else tb l)))
def qg2 (x:UInt8):List UInt8:=if x=92 then [92] else if x=110 then [10] else []
def qbc (p:List UInt8) (r:Int×List UInt8):Int×List UInt8:=if r.1=0 then (0,p++r.2) else (r.1,[])
def rdh:List UInt8→Int×List UInt8
 | []=>(0,[])
 | [c]=>if c=10 then (223,[]) else if c=92 then (220,[]) else (0,[c])
 |c::x::t=>if c=10 then (223,[]) else if c=92 then (if qg2 x=[] then (220,[]) else qbc (qg2 x) (rdh t)) else qbc [c] (rdh (x::t))
def qdD (l:List UInt8):Int×Lb:=
 if qan 58 (wd (qbe l))=true∧(rdh (tb (wr (qbe l)))).1=0∧((L.ck (BS (rdh (tb (wr (qbe l)))).2)).2==0)=true then (0,(wd (qbe l),(rdh (tb (wr (qbe l)))).2)) else (237,lb0)
def qgu:List (List UInt8):=[[99,111,117,110,116,101,114],[103,97,117,103,101],[104,105,115,116,111,103,114,97,109],[115,117,109,109,97,114,121],[117,110,116,121,112,101,100]]
def qdC (l:List UInt8):Int×Lb:=
 if qan 58 (wd (qbe l))=true∧qgu.contains (wd (tb (wr (qbe l))))=true∧tb (wr (tb (wr (qbe l))))=[] then (0,(wd (qbe l),wd (tb (wr (qbe l))))) else (236,lb0)
structure Bdy where
 s:List Smp
 t:List Lb
 h:List Lb
def qhg:Bdy:=⟨[],[],[]⟩
noncomputable def qcv (b:Bdy) (l:List UInt8):Int×Bdy:=
 match kindN l with
 |1=>(if (qaz l).1=0∧1000≤b.s.length then 5 else (qaz l).1,{b with s:=b.s++[(qaz l).2]})
 |3=>(if (qdC l).1=0∧qcU b.t (qdC l).2.1=true then 238 else (qdC l).1,{b with t:=b.t++[(qdC l).2]})
 |2=>(if (qdD l).1=0∧qcU b.h (qdD l).2.1=true then 238 else (qdD l).1,{b with h:=b.h++[(qdD l).2]})
 |_=>(0,b)
noncomputable def qbm:Nat→List (List UInt8)→Bdy→Int×Int×Bdy
 |_,[],b=>(0,0,b)
 |n,l::t,b=>if (qcv b l).1=0 then qbm (n+1) t (qcv b l).2 else ((qcv b l).1,((n+1:Nat):Int),qhg)
noncomputable def qeZ (l:List UInt8):Int×Int×Bdy:=if 65536<l.length then (3,0,qhg) else qbm 0 (L.linesL l) qhg
def qaR:Nat→List UInt8→List Smp→Int×Int×List UInt8
 |_,acc,[]=>(0,-1,acc)
 |i,acc,s::t=>if (qcd s).1=0 then qaR (i+1) (if acc.length≤65536 then acc++((qcd s).2++[10]) else acc) t else ((qcd s).1,(i:Int),[])
def qdy (ls:List Smp):Int×Int×List UInt8:=
 if (qaR 0 [] ls).1=0 then
  (if 1000<ls.length then (5,-1,[]) else if 65536<(qaR 0 [] ls).2.2.length then (3,-1,[]) else (0,-1,(qaR 0 [] ls).2.2))
 else ((qaR 0 [] ls).1,(qaR 0 [] ls).2.1,[])
abbrev quu (q:Nat):Value:= .func (.func 155) #[] #[.pointer (some ⟨q,0,none⟩)]
theorem qpj (x:Lb) (n:List UInt8) (q:Nat) (w:World) (hq:q<w.heap.size) (hc:w.cell? ⟨q,0,none⟩=some (.string (BS n))):Calls Tryz.prog 155 #[.agg #[.string (BS x.1),.string (BS x.2)],.pointer (some ⟨q,0,none⟩)] w fun e w'=>e= .returned (.bool (x.1==n))∧Below w.heap.size w w':=by
 have hB: ∀ob,Hid (Below w.heap.size w (w.alloc ob)):=fun ob=>Lh ((Below.refl _ _).alloc (Nat.le_refl _) ob)
 have he:((BS x.1).toList==(BS n).toList)=(x.1==n):=by rw[qab,qab]
 obtain⟨b,hb⟩: ∃b,(x.1==n)=b:=⟨_,rfl⟩;rw[hb] at he⊢;clear hb;go_enter Tryz.func155,Tryz.ntmps155;go_wp2_with fail;go_ret;exact⟨by rw[←he];rfl,(hB _).out⟩
theorem qm3 (v:Value) (ls:List Lb) (n:List UInt8) (hl:ls.length≤1000000000) (q:Nat) (w:World) (hq:q<w.heap.size) (hc:w.cell? ⟨q,0,none⟩=some (.string (BS n))) (hr:qaM w v ls):
 Calls Tryz.prog 210 #[v,quu q] w fun e w'=>(∃k:Int,e= .returned (.int .i64 k)∧decide (0≤k)=qcU ls n)∧Below w.heap.size w w':=by
 obtain⟨a,c,rfl⟩:=hr.shape;have hrh:=Lh hr;clear hr;obtain⟨G,hG⟩: ∃G,Hid (G=qcU ls n):=⟨_,Lh rfl⟩;rw[←hG.out];obtain⟨m,hm⟩: ∃m,m=ls.length:=⟨_,rfl⟩;have hmh:=Lh hm;rw[←hm] at hl⊢;clear hm;have cF:=Lh (fun (W:World) (x:Lb) (hB:Below w.heap.size w W)=>qpj x n q W (Nat.lt_of_lt_of_le hq hB.size) ((hB.cell (p:=⟨q,0,none⟩) hq).trans hc));clear hc hq;go_enter Tryz.func210,Tryz.ntmps210;go_wp2_with fail;go_loopg [8] (m+1) (fun gk s8 wx=> ∃i:Nat,i≤m∧m - i<gk∧s8= .int .i64 (i:Int)∧Hid (G=qcU (ls.drop i) n)∧Hid (Below w.heap.size w wx))
 case atStart=>exact⟨0,by omega,by omega,rfl,Lh hG.out,Lh (Below.refl _ _)⟩
 case round=>
  obtain⟨i,hi,hgk,rfl,hI,B⟩:=hrel
  by_cases hlt:i<m
  ·have u2:decide ((i:Int)<(m:Int))=true:=dT (by omega);have u3:decide (i<m)=true:=dT hlt;have hil:i<ls.length:=by rw[←hmh.out];exact hlt
   obtain⟨b,off,rfl,hbl,x1,x2⟩:=(hrh.out.on B.out).at' i hil;have hI2:=hI.out;rw[qfG ls n i hil] at hI2;obtain⟨x,hx⟩: ∃x,Hid (x=ls.getD i lb0):=⟨_,Lh rfl⟩;rw[←hx.out] at x1 x2 hI2;have cf:=cF.out wr x B.out
   cases hxn:(x.1==n)with
   |true=>
    rw[hxn] at hI2 cf;have hR:=Lh hI2;replace cf:=Lh cf;clear hxn hI hI2 cF;go_wp2_with fail;refine cf.out.mono ?_;rintro e w2 ⟨rfl,B2⟩;have B3:=Lh (B.out.trans (B2.mono B.out.size));clear B2 cf;go_wp2_with fail;go_ret;exact⟨⟨_,rfl,by rw[hR.out];exact dT (by omega)⟩,B3.out⟩
   |false=>
    rw[hxn] at hI2 cf;have hR:=Lh hI2;replace cf:=Lh cf;clear hxn hI hI2 cF;go_wp2_with fail;refine cf.out.mono ?_;rintro e w2 ⟨rfl,B2⟩;have B3:=Lh (B.out.trans (B2.mono B.out.size));clear B2 cf;go_wp2_with fail;go_roundg (gk - 1)
    case measure=>omega
    case rel=>exact⟨i+1,by omega,by omega,by go_num,Lh (by rw[hR.out];rfl),B3⟩
  ·obtain rfl:i=m:=by omega
   have u2:decide ((i:Int)<(i:Int))=false:=dF (by omega);have hF:Hid (G=false):=Lh (by rw[hI.out,List.drop_of_length_le (by rw[←hmh.out];exact Nat.le_refl _)];rfl);clear hI;go_wp2_with fail;go_ret;exact⟨⟨_,rfl,by rw[hF.out];rfl⟩,B.out⟩
theorem qti (v:Value) (ls:List Lb) (n:List UInt8) (hl:ls.length≤1000000000) (q:Nat) (w:World) (hq:q<w.heap.size) (hc:w.cell? ⟨q,0,none⟩=some (.string (BS n))) (hr:qaM w v ls):
 Calls Tryz.prog 154 #[v,quu q] w fun e w'=>e= .returned (.bool (qcU ls n))∧Below w.heap.size w w':=by
 have ci:=Lh (qm3 v ls n hl q w hq hc hr);obtain⟨a,c,rfl⟩:=hr.shape;clear hr hc;go_enter Tryz.func154,Tryz.ntmps154;go_wp2_with fail;refine ci.out.mono ?_;rintro e w2 ⟨⟨k,rfl,hk⟩,B2⟩;have hk2:decide (k≥0)=qcU ls n:=hk;clear hk;go_wp2_with fail;go_ret;exact⟨by rw[←hk2];rfl,B2⟩
abbrev qup (q:Nat):Value:= .func (.func 158) #[] #[.pointer (some ⟨q,0,none⟩)]
theorem qqi (x:Lb) (n:List UInt8) (q:Nat) (w:World) (hq:q<w.heap.size) (hc:w.cell? ⟨q,0,none⟩=some (.string (BS n))):Calls Tryz.prog 158 #[.agg #[.string (BS x.1),.string (BS x.2)],.pointer (some ⟨q,0,none⟩)] w fun e w'=>e= .returned (.bool (x.1==n))∧Below w.heap.size w w':=by
 have hB: ∀ob,Hid (Below w.heap.size w (w.alloc ob)):=fun ob=>Lh ((Below.refl _ _).alloc (Nat.le_refl _) ob)
 have he:((BS x.1).toList==(BS n).toList)=(x.1==n):=by rw[qab,qab]
 obtain⟨b,hb⟩: ∃b,(x.1==n)=b:=⟨_,rfl⟩;rw[hb] at he⊢;clear hb;go_enter Tryz.func158,Tryz.ntmps158;go_wp2_with fail;go_ret;exact⟨by rw[←he];rfl,(hB _).out⟩
theorem qmV (v:Value) (ls:List Lb) (n:List UInt8) (hl:ls.length≤1000000000) (q:Nat) (w:World) (hq:q<w.heap.size) (hc:w.cell? ⟨q,0,none⟩=some (.string (BS n))) (hr:qaM w v ls):
 Calls Tryz.prog 212 #[v,qup q] w fun e w'=>(∃k:Int,e= .returned (.int .i64 k)∧decide (0≤k)=qcU ls n)∧Below w.heap.size w w':=by
 obtain⟨a,c,rfl⟩:=hr.shape;have hrh:=Lh hr;clear hr;obtain⟨G,hG⟩: ∃G,Hid (G=qcU ls n):=⟨_,Lh rfl⟩;rw[←hG.out];obtain⟨m,hm⟩: ∃m,m=ls.length:=⟨_,rfl⟩;have hmh:=Lh hm;rw[←hm] at hl⊢;clear hm;have cF:=Lh (fun (W:World) (x:Lb) (hB:Below w.heap.size w W)=>qqi x n q W (Nat.lt_of_lt_of_le hq hB.size) ((hB.cell (p:=⟨q,0,none⟩) hq).trans hc));clear hc hq;go_enter Tryz.func212,Tryz.ntmps212;go_wp2_with fail;go_loopg [8] (m+1) (fun gk s8 wx=> ∃i:Nat,i≤m∧m - i<gk∧s8= .int .i64 (i:Int)∧Hid (G=qcU (ls.drop i) n)∧Hid (Below w.heap.size w wx))
 case atStart=>exact⟨0,by omega,by omega,rfl,Lh hG.out,Lh (Below.refl _ _)⟩
 case round=>
  obtain⟨i,hi,hgk,rfl,hI,B⟩:=hrel
  by_cases hlt:i<m
  ·have u2:decide ((i:Int)<(m:Int))=true:=dT (by omega);have u3:decide (i<m)=true:=dT hlt;have hil:i<ls.length:=by rw[←hmh.out];exact hlt
   obtain⟨b,off,rfl,hbl,x1,x2⟩:=(hrh.out.on B.out).at' i hil;have hI2:=hI.out;rw[qfG ls n i hil] at hI2;obtain⟨x,hx⟩: ∃x,Hid (x=ls.getD i lb0):=⟨_,Lh rfl⟩;rw[←hx.out] at x1 x2 hI2;have cf:=cF.out wr x B.out
   cases hxn:(x.1==n)with
   |true=>
    rw[hxn] at hI2 cf;have hR:=Lh hI2;replace cf:=Lh cf;clear hxn hI hI2 cF;go_wp2_with fail;refine cf.out.mono ?_;rintro e w2 ⟨rfl,B2⟩;have B3:=Lh (B.out.trans (B2.mono B.out.size));clear B2 cf;go_wp2_with fail;go_ret;exact⟨⟨_,rfl,by rw[hR.out];exact dT (by omega)⟩,B3.out⟩
   |false=>
    rw[hxn] at hI2 cf;have hR:=Lh hI2;replace cf:=Lh cf;clear hxn hI hI2 cF;go_wp2_with fail;refine cf.out.mono ?_;rintro e w2 ⟨rfl,B2⟩;have B3:=Lh (B.out.trans (B2.mono B.out.size));clear B2 cf;go_wp2_with fail;go_roundg (gk - 1)
    case measure=>omega
    case rel=>exact⟨i+1,by omega,by omega,by go_num,Lh (by rw[hR.out];rfl),B3⟩
  ·obtain rfl:i=m:=by omega
   have u2:decide ((i:Int)<(i:Int))=false:=dF (by omega);have hF:Hid (G=false):=Lh (by rw[hI.out,List.drop_of_length_le (by rw[←hmh.out];exact Nat.le_refl _)];rfl);clear hI;go_wp2_with fail;go_ret;exact⟨⟨_,rfl,by rw[hF.out];rfl⟩,B.out⟩
theorem qsj (v:Value) (ls:List Lb) (n:List UInt8) (hl:ls.length≤1000000000) (q:Nat) (w:World) (hq:q<w.heap.size) (hc:w.cell? ⟨q,0,none⟩=some (.string (BS n))) (hr:qaM w v ls):
 Calls Tryz.prog 157 #[v,qup q] w fun e w'=>e= .returned (.bool (qcU ls n))∧Below w.heap.size w w':=by
 have ci:=Lh (qmV v ls n hl q w hq hc hr);obtain⟨a,c,rfl⟩:=hr.shape;clear hr hc;go_enter Tryz.func157,Tryz.ntmps157;go_wp2_with fail;refine ci.out.mono ?_;rintro e w2 ⟨⟨k,rfl,hk⟩,B2⟩;have hk2:decide (k≥0)=qcU ls n:=hk;clear hk;go_wp2_with fail;go_ret;exact⟨by rw[←hk2];rfl,B2⟩
def qgZ (w:World) (b:Nat) (ts:List (List UInt8)):Prop:=b<w.heap.size∧ ∀i,i<ts.length→w.cell? ⟨b,i,none⟩=some (.string (BS (ts.getD i [])))
theorem qgZ.on {w W:World} {b:Nat} {ts:List (List UInt8)} (h:qgZ w b ts) (hb:Below w.heap.size w W):qgZ W b ts:=
 ⟨Nat.lt_of_lt_of_le h.1 hb.size,fun i hi=>(hb.cell (p:=⟨b,i,none⟩) h.1).trans (h.2 i hi)⟩
theorem qss (ts:List (List UInt8)) (i:Nat) (h:i<ts.length):ts.drop i=ts.getD i []::ts.drop (i+1):=by
 rw[List.drop_eq_getElem_cons h,List.getD_eq_getElem?_getD,List.getElem?_eq_getElem h];rfl
theorem qqs (b cap:Nat) (ts:List (List UInt8)) (x:List UInt8) (hl:ts.length≤1000000000) (w:World) (h:qgZ w b ts):
 Calls Tryz.prog 106 #[.slice (some ⟨b,0,none⟩) ts.length cap,.string (BS x)] w fun e w'=>(∃k:Int,e= .returned (.int .i64 k)∧decide (0≤k)=ts.contains x)∧w=w':=by
 have H:=Lh h;obtain⟨G,hG⟩: ∃G,Hid (G=ts.contains x):=⟨_,Lh rfl⟩;rw[←hG.out];obtain⟨m,hm⟩: ∃m,m=ts.length:=⟨_,rfl⟩;have hmh:=Lh hm;rw[←hm] at hl⊢;clear hm h;go_enter Tryz.func106,Tryz.ntmps106;go_wp2_with fail;go_loopg [8] (m+1) (fun gk s8 wx=> ∃i:Nat,i≤m∧m - i<gk∧s8= .int .i64 (i:Int)∧Hid (G=(ts.drop i).contains x)∧w=wx)
 case atStart=>exact⟨0,by omega,by omega,rfl,Lh hG.out,rfl⟩
 case round=>
  obtain⟨i,hi,hgk,rfl,hI,rfl⟩:=hrel
  by_cases hlt:i<m
  ·have u2:decide ((i:Int)<(m:Int))=true:=dT (by omega);have u3:decide (i<m)=true:=dT hlt;have hil:i<ts.length:=by rw[←hmh.out];exact hlt
   have x1:=H.out.2 i hil;have hI2:=hI.out;rw[qss ts i hil,List.contains_cons] at hI2;obtain⟨y,hy⟩: ∃y,Hid (y=ts.getD i []):=⟨_,Lh rfl⟩;rw[←hy.out] at x1 hI2;have he:((BS x).toList==(BS y).toList)=(x==y):=by rw[qab,qab]
   cases hxy:(x==y)with
   |true=>
    rw[hxy] at hI2 he;have hR:=Lh hI2;clear hxy hI hI2;go_wp2_with fail;go_ret;exact⟨⟨_,rfl,by rw[hR.out];exact dT (by omega)⟩,rfl⟩
   |false=>
    rw[hxy] at hI2 he;have hR:=Lh hI2;clear hxy hI hI2;go_wp2_with fail;go_roundg (gk - 1)
    case measure=>omega
    case rel=>exact⟨i+1,by omega,by omega,by go_num,Lh (by rw[hR.out];rfl),rfl⟩
  ·obtain rfl:i=m:=by omega
   have u2:decide ((i:Int)<(i:Int))=false:=dF (by omega);have hF:Hid (G=false):=Lh (by rw[hI.out,List.drop_of_length_le (by rw[←hmh.out];exact Nat.le_refl _)];rfl);clear hI;go_wp2_with fail;go_ret;exact⟨⟨_,rfl,by rw[hF.out];rfl⟩,rfl⟩
theorem qpk (b cap:Nat) (ts:List (List UInt8)) (x:List UInt8) (hl:ts.length≤1000000000) (w:World) (h:qgZ w b ts):
 Calls Tryz.prog 48 #[.slice (some ⟨b,0,none⟩) ts.length cap,.string (BS x)] w fun e w'=>e= .returned (.bool (ts.contains x))∧w=w':=by
 have ci:=qqs b cap ts x hl w h;obtain⟨G,hG⟩: ∃G,ts.contains x=G:=⟨_,rfl⟩;rw[hG] at ci⊢;replace ci:=Lh ci;clear h hG;go_enter Tryz.func48,Tryz.ntmps48;go_wp2_with fail;refine ci.out.mono ?_;rintro e w2 ⟨⟨k,rfl,hk⟩,rfl⟩;have hk2:decide (k≥0)=G:=hk;clear hk;go_wp2_with fail;go_ret;exact⟨by rw[←hk2];rfl,rfl⟩
theorem qjO (l:List UInt8) (hl:l.length≤65536) (w:World):Calls Tryz.prog 209 #[.string (BS l)] w fun e w'=>e= .returned (.pointer (some ⟨w.heap.size,0,none⟩))∧Lft w.heap.size (qbe l) w'∧Below w.heap.size w w':=by
 have N:=Lh (Lft.new l w);have hR:Hid (qbe l=tb (wr (tb (if ((tb l).head?==some 35)=true then (tb l).tail else tb l)))):=Lh rfl;have hl1:=Nat.le_trans (qbh l) hl;obtain⟨a,ha⟩: ∃a,tb l=a:=⟨_,rfl⟩;have cb1:=qal w.heap.size l _ N.out.1;rw[ha] at hR hl1 cb1;replace cb1:=Lh cb1;obtain⟨T,hT⟩: ∃T,T=qbe l:=⟨_,rfl⟩;rw[←hT] at hR⊢;clear ha hT;go_enter Tryz.func209,Tryz.ntmps209;go_wp2_with fail;refine cb1.out.mono ?_;rintro e w1 ⟨rfl,H1,O1⟩;have B1:=Lh (Only.onB N.out.2 (Nat.le_refl _) O1 (by simp));clear cb1 O1 N;have cby:=qdi w.heap.size 35 a w1 H1;obtain⟨b,hb⟩: ∃b,(if (a.head?==some 35)=true then a.tail else a)=b:=⟨_,rfl⟩
 have hbl:b.length≤65536:=by
  rw[←hb];split
  ·rw[List.length_tail];omega
  ·exact hl1
 rw[hb] at cby hR;replace cby:=Lh cby;clear hb H1;go_wp2_with fail;refine cby.out.mono ?_;rintro e w2 ⟨rfl,H2,O2⟩;have B2:=Lh (Only.onB B1.out (Nat.le_refl _) O2 B1.out.size);clear cby O2 B1;go_wp2_with fail;refine(qal w.heap.size b _ H2).mono ?_;rintro e w3 ⟨rfl,H3,O3⟩;have B3:=Lh (Only.onB B2.out (Nat.le_refl _) O3 B2.out.size);have hcl:=Nat.le_trans (qbh b) hbl;clear H2 O3 B2;go_wp2_with fail;refine(qbR w.heap.size (tb b) hcl _ H3).mono ?_;rintro e w4 ⟨rfl,H4,O4⟩;have B4:=Lh (Only.onB B3.out (Nat.le_refl _) O4 B3.out.size);clear H3 O4 B3;go_wp2_with fail;refine(qal w.heap.size (wr (tb b)) _ H4).mono ?_;rintro e w5 ⟨rfl,H5,O5⟩;have B5:=Lh (Only.onB B4.out (Nat.le_refl _) O5 B4.out.size);rw[←hR.out] at H5;replace H5:=Lh H5;clear H4 O5 B4;go_wp2_with fail;go_ret;exact⟨rfl,H5.out,B5.out⟩
end Go.Proofs.YtdeimnnpcfncpaaGreatDoor.X
end
section
namespace Go.Proofs.YtdeimnnpcfncpaaGreatDoor.L
open Go.RowKit Go.Shelf X
theorem qoo (l:List UInt8) (i:Nat) (h:i<l.length) (hc:l.getD i 0=10) (p:List UInt8):qbc p (rdh (l.drop i))=(223,[]):=by
 rw[qas l i h,hc];cases l.drop (i+1)<;>rfl
theorem qpq (l:List UInt8) (i:Nat) (h:l.length≤i) (p:List UInt8):qbc p (rdh (l.drop i))=(0,p):=by
 rw[List.drop_of_length_le h];show(0,p++[])=_;rw[List.append_nil]
theorem qeC (p q:List UInt8) (r:Int×List UInt8):qbc p (qbc q r)=qbc (p++q) r:=by
 unfold qbc
 by_cases h:r.1=0
 ·simp[h]
 ·simp[h]
theorem qfC (l:List UInt8) (i:Nat) (h:i+1=l.length) (hc:l.getD i 0=92) (p:List UInt8):qbc p (rdh (l.drop i))=(220,[]):=by
 rw[qas l i (by omega),hc,List.drop_of_length_le (by omega)];rfl
theorem qgE (l:List UInt8) (i:Nat) (h:i+1<l.length) (hc:l.getD i 0=92) (he:qg2 (l.getD (i+1) 0)=[]) (p:List UInt8):qbc p (rdh (l.drop i))=(220,[]):=by
 rw[qas l i (by omega),hc,qas l (i+1) h,rdh,if_neg (by decide),if_pos rfl,if_pos he];rfl
theorem qkq (l:List UInt8) (i:Nat) (h:i+1<l.length) (hc:l.getD i 0=92) (he:qg2 (l.getD (i+1) 0)≠[]) (p:List UInt8):qbc p (rdh (l.drop i))=qbc (p++qg2 (l.getD (i+1) 0)) (rdh (l.drop (i+2))):=by
 rw[qas l i (by omega),hc,qas l (i+1) h,rdh,if_neg (by decide),if_pos rfl,if_neg he,qeC]
theorem qn9 (l:List UInt8) (i:Nat) (h:i<l.length) (h1:l.getD i 0≠10) (h3:l.getD i 0≠92) (p:List UInt8):qbc p (rdh (l.drop i))=qbc (p++[l.getD i 0]) (rdh (l.drop (i+1))):=by
 rw[qas l i h,←qeC]
 congr 1
 generalize l.getD i 0=c at h1 h3⊢
 cases l.drop (i+1)with
 |nil=>simp[rdh,h1,h3,qbc]
 |cons x t=>rw[rdh,if_neg h1,if_neg h3]
theorem qsw (x:UInt8):qdE x 2=qg2 x:=by
 unfold qg2
 by_cases h1:x=92
 ·subst h1;decide
 ·by_cases h2:x=110
  ·subst h2;decide
  ·simp[qdE,plU,h1,h2]
theorem qsn (x:UInt8):fnd x 2=decide (qg2 x≠[]):=by
 unfold qg2
 by_cases h1:x=92
 ·subst h1;decide
 ·by_cases h2:x=110
  ·subst h2;decide
  ·simp[fnd,plU,h1,h2]
theorem qjT (s:ByteArray) (hs:s.size<900000) (w:World):Calls Tryz.prog 236 #[.string s,.int .i64 2,.bool false] w fun e w'=>(∃n,e= .returned (.tuple #[.string ⟨(qbc [] (rdh s.data.toList)).2.toArray⟩,.int .i64 n,.int .i64 (qbc [] (rdh s.data.toList)).1]))∧Below w.heap.size w w':=by
 obtain⟨R,hR⟩: ∃R,Hid (qbc [] (rdh (s.data.toList.drop 0))=R):=⟨_,rfl⟩;rw[show qbc [] (rdh s.data.toList)=R from hR.out];have hz:Hid (s.data.toList.length=s.size):=by show _=_;simp
 go_enter Tryz.func236,Tryz.ntmps236;go_wp2_with fail;go_step3;go_wp2_with fail;refine(qek _).mono ?_;rintro e w1 ⟨rfl,hb1⟩;go_wp2_with fail;go_step3;show Exit.then _ _ _ _ (w1.alloc (.cells qfP 276));have I:=Lh (qlx w w1 hb1);have hN:w1.heap.size≠w.heap.size:=by have:=hb1.size;simp at this;omega
 clear hb1;generalize w1.alloc (.cells qfP 276)=w2 at I⊢;generalize w1.heap.size=N at I hN⊢;go_wp2_with fail;go_loopg [11,12] (s.size+1) (fun g s11 s12 wx=> ∃(i:Nat) (acc:List UInt8),i+g=s.size+1∧s11= .int .i64 i∧s12= .int .i64 0∧i≤s.size∧acc.length≤i∧Hid (qbc acc (rdh (s.data.toList.drop i))=R)∧Hid (RdI w w.heap.size N acc wx))
 case atStart=>exact⟨0,[],by omega,rfl,rfl,by omega,by simp,hR,I⟩
 case round=>
  clear I hR;obtain⟨i,acc,hi,rfl,rfl,hin,hal,hR,I⟩:=hrel
  by_cases hlt:i<s.size
  ·have t1:decide (i<s.size)=true:=dT hlt;have hB:=qa9 s i hlt;obtain⟨c,hc⟩: ∃c,Hid (s.data.toList.getD i 0=c):=⟨_,rfl⟩;rw[show byt s i=(c.toNat:Int) by unfold byt;rw[hc.out]] at hB;have hli:i<s.data.toList.length:=by rw[hz.out];exact hlt
   by_cases g1:c=10
   ·subst g1;have e:=hR.out;rw[qoo _ _ hli hc.out] at e;subst e;rw[show(((10:UInt8).toNat:Int))=10 from rfl] at hB;clear hli hc hR;go_wp2_with fail;rw[Exit.noGoto_ret];go_ret3;exact⟨⟨_,rfl⟩,I.out.2⟩
   ·have s1:((c.toNat:Int)==10)=false:=qb7 c 10 _ rfl g1
    by_cases g3:c=92
    ·subst g3;rw[show(((92:UInt8).toNat:Int))=92 from rfl] at hB
     by_cases hend:i+1=s.size
     ·have e:=hR.out;rw[qfC _ _ (by rw[hz.out];exact hend) hc.out] at e;subst e;have t2:((i:Int)+1==(s.size:Int))=true:=by simp;omega
      clear hli hc hR;go_wp2_with fail;rw[Exit.noGoto_ret];go_ret3;exact⟨⟨_,rfl⟩,I.out.2⟩
     ·have t2:((i:Int)+1==(s.size:Int))=false:=by simp;omega
      have hlt2:i+1<s.size:=by omega
      have hB2:=qa9 s (i+1) hlt2;obtain⟨x,hx⟩: ∃x,Hid (s.data.toList.getD (i+1) 0=x):=⟨_,rfl⟩;rw[show byt s (i+1)=(x.toNat:Int) by unfold byt;rw[hx.out]] at hB2;have t3:decide (0≤(i:Int)+1)=true:=dT (by omega);go_wp2_with fail;go_loopg [14,55] 2 (fun gj s14 s55 wx=> ∃j:Nat,j+gj=2∧s55= .int .i64 j∧s14= .bool (fnd x j)∧Hid (RdI w w.heap.size N (acc++qdE x j) wx))
      case atStart=>exact⟨0,by omega,rfl,rfl,by rw[qdE,List.append_nil];exact I⟩
      case round=>
       clear I;obtain⟨j,hj,rfl,rfl,I⟩:=hrel
       by_cases hlj:j<2
       ·have t4:decide (j<2)=true:=dT hlj;obtain⟨k1,k2⟩:=I.out.1.2.cells j (by omega);rw[qkl] at k1;rw[qjR] at k2;have hI1:=Lh (I.out.alloc (.cells #[.int .u8 ((pcU j).toNat:Int),.int .u8 ((plU j).toNat:Int)] 275));have hol:=qfQ x j
        by_cases he:x=plU j
        ·have s4:((x.toNat:Int)==((plU j).toNat:Int))=true:=by rw[he];simp
         have ho:acc++qdE x j++[pcU j]=acc++qdE x (j+1):=by rw[qdE,if_pos he,List.append_assoc]
         have hf:fnd x (j+1)=true:=by rw[fnd,dT he,Bool.or_true]
         replace ho:=Lh ho;clear I;go_upto_region 26 with (fail)
         go_region;go_wp2_with fail;refine(qto w w.heap.size N hN (acc++qdE x j) (pcU j) (by simp;omega) _ hI1.out.drew).mono ?_;rintro e w3 ⟨rfl,hI3⟩;rw[ho.out] at hI3;replace hI3:=Lh hI3;clear hI1;go_wp2_with fail;go_roundg (gk - 1)
         case measure=>omega
         case rel=>exact⟨j+1,by omega,rfl,by rw[hf],hI3⟩
        ·have s4:((x.toNat:Int)==((plU j).toNat:Int))=false:=qb7 x _ _ rfl he;have ho:acc++qdE x (j+1)=acc++qdE x j:=by rw[qdE,if_neg he,List.append_nil]
         have hf:fnd x (j+1)=fnd x j:=by rw[fnd,dF he,Bool.or_false]
         replace ho:=Lh ho;clear I;go_upto_region 26 with (fail)
         go_region;go_wp2_with fail;go_roundg (gk - 1)
         case measure=>omega
         case rel=>exact⟨j+1,by omega,rfl,by rw[hf],by rw[ho.out];exact hI1.out.drew⟩
       ·obtain rfl:j=2:=by omega
        have t4:decide (2<2)=false:=rfl;rw[qsw] at I
        by_cases he:qg2 x=[]
        ·have hf:fnd x 2=false:=by rw[qsn,he];rfl
         have e:=hR.out;rw[qgE _ _ (by rw[hz.out];exact hlt2) hc.out (by rw[hx.out];exact he)] at e;subst e;clear hli hc hR hx;go_wp2_with fail;rw[Exit.noGoto_ret];go_ret3;exact⟨⟨_,rfl⟩,I.out.2⟩
        ·have hf:fnd x 2=true:=by rw[qsn];exact dT he
         have hR2:=qkq _ _ (by rw[hz.out];exact hlt2) hc.out (by rw[hx.out];exact he) acc;rw[hx.out,hR.out] at hR2;replace hR2:=Lh hR2.symm;have hel:(qg2 x).length≤1:=by unfold qg2;(repeat' split)<;>simp
         clear hli hc hR hx;go_wp2_with fail;go_roundg (s.size+1 - (i+2))
         case measure=>omega
         case rel=>exact⟨i+2,acc++qg2 x,by omega,by go_num,rfl,by omega,by simp;omega,hR2,I⟩
    ·have s3:((c.toNat:Int)==92)=false:=qb7 c 92 _ rfl g3;have s3':((c.toNat:Int) !=92)=true:=by rw[bne,s3];rfl
     have hR2:=Lh (qn9 _ _ hli (by rw[hc.out];exact g1) (by rw[hc.out];exact g3) acc);rw[hc.out,hR.out] at hR2;replace hR2:=Lh hR2.out.symm;cases s2:((c.toNat:Int)==34)
     all_goals
      go_wp2_with fail;refine(qto w w.heap.size N hN acc c (by omega) _ I.out).mono ?_;rintro e w3 ⟨rfl,hI3⟩;replace hI3:=Lh hI3;clear I hR;go_wp2_with fail;go_roundg (gk - 1)
      case measure=>omega
      case rel=>exact⟨i+1,acc++[c],by omega,rfl,rfl,by omega,by simp;omega,hR2,hI3⟩
  ·obtain rfl:i=s.size:=by omega
   have t1:decide (s.size<s.size)=false:=dF (by omega);have e:=hR.out;rw[qpq _ _ (by rw[hz.out];omega)] at e;subst e;go_wp2_with fail;refine(str_k w.heap.size w.heap.size acc _ rfl _ I.out.1.1 I.out.2.size).mono ?_;rintro e w3 ⟨rfl,_,hb3,_⟩;have B3:=I.out.2.trans hb3;go_wp2_with fail;rw[Exit.noGoto_ret];go_ret3;exact⟨⟨_,rfl⟩,B3⟩
theorem qgV (p:List UInt8) (r:Int×List UInt8) (h:(qbc p r).1≠0):(qbc p r).2=[]:=by
 unfold qbc at h⊢
 split
 ·rename_i g;rw[if_pos g] at h;exact absurd rfl h
 ·rfl
theorem qpY: ∀l:List UInt8,(rdh l).1≠0→(rdh l).2=[]
 | [],h=>absurd rfl h
 | [c],h=>by
   unfold rdh at h⊢
   split
   ·rfl
   ·rename_i g
    rw[if_neg g] at h
    split
    ·rfl
    ·rename_i g2;rw[if_neg g2] at h;exact absurd rfl h
 |c::x::t,h=>by
  rw[rdh] at h⊢
  split
  ·rfl
  ·rename_i g
   rw[if_neg g] at h
   split
   ·rename_i g2
    rw[if_pos g2] at h
    split
    ·rfl
    ·rename_i g3;rw[if_neg g3] at h;exact qgV _ _ h
   ·rename_i g2
    rw[if_neg g2] at h;exact qgV _ _ h
theorem help_any (l:List UInt8) (hl:l.length≤65536) (w:World):Calls Tryz.prog 211 #[.string (BS l)] w fun e w'=>e= .returned (.tuple #[.string (BS (rdh l).2),.int .i64 (rdh l).1])∧Below w.heap.size w w':=by
 have hz:=qac l;have c:=qjT (BS l) (by omega) w;rw[show(BS l).data.toList=l by simp[BS]] at c
 have he:qbc [] (rdh l)=rdh l:=by
  unfold qbc
  by_cases h:(rdh l).1=0
  ·rw[if_pos h,List.nil_append,←h]
  ·rw[if_neg h];have h2:=qpY l h;rw[←h2]
 rw[he] at c;have hc:=Lh c;have u1:decide ((65536:Int)<((BS l).size:Int))=false:=dF (by omega);clear c he;generalize rdh l=q at hc⊢;go_enter Tryz.func211,Tryz.ntmps211;go_wp2_with fail;refine hc.out.mono ?_;rintro x w1 ⟨⟨n,rfl⟩,B⟩;go_wp2_with fail;go_ret2;exact⟨rfl,B⟩
end Go.Proofs.YtdeimnnpcfncpaaGreatDoor.L
end
