/- Parts of the proof: P0 P2 P1. -/
import Derived.Test.YtdeimnnpcfncpaaGreatDoorCY30
set_option linter.unusedVariables false
set_option linter.unusedSimpArgs false
set_option maxRecDepth 100000
set_option maxHeartbeats 64000000
namespace Go.Proofs.YtdeimnnpcfncpaaGreatDoor.X
open Go Go.RowKit
def qa8 (l:List UInt8):List UInt8:=tb (wr (tb (if ((tb l).head?==some 35)=true then (tb l).tail else tb l)))
def qgD (x:UInt8):List UInt8:=if x=92 then [92] else if x=110 then [10] else []
def qba (p:List UInt8) (r:Int×List UInt8):Int×List UInt8:=if r.1=0 then (0,p++r.2) else (r.1,[])
def rdh:List UInt8→Int×List UInt8
 | []=>(0,[])
 | [c]=>if c=10 then (223,[]) else if c=92 then (220,[]) else (0,[c])
 |c::x::t=>if c=10 then (223,[]) else if c=92 then (if qgD x=[] then (220,[]) else qba (qgD x) (rdh t)) else qba [c] (rdh (x::t))
def qds (l:List UInt8):Int×Lb:=
 if qan 58 (wd (qa8 l))=true∧(rdh (tb (wr (qa8 l)))).1=0∧((L.ck (BS (rdh (tb (wr (qa8 l)))).2)).2==0)=true then (0,(wd (qa8 l),(rdh (tb (wr (qa8 l)))).2)) else (237,lb0)
def qgz:List (List UInt8):=[[99,111,117,110,116,101,114],[103,97,117,103,101],[104,105,115,116,111,103,114,97,109],[115,117,109,109,97,114,121],[117,110,116,121,112,101,100]]
def qdn (l:List UInt8):Int×Lb:=
 if qan 58 (wd (qa8 l))=true∧qgz.contains (wd (tb (wr (qa8 l))))=true∧tb (wr (tb (wr (qa8 l))))=[] then (0,(wd (qa8 l),wd (tb (wr (qa8 l))))) else (236,lb0)
structure Bdy where
 s:List Smp
 t:List Lb
 h:List Lb
def qg2:Bdy:=⟨[],[],[]⟩
noncomputable def qck (b:Bdy) (l:List UInt8):Int×Bdy:=
 match kindN l with
 |1=>(if (qay l).1=0∧1000≤b.s.length then 5 else (qay l).1,{b with s:=b.s++[(qay l).2]})
 |3=>(if (qdn l).1=0∧qb2 b.t (qdn l).2.1=true then 238 else (qdn l).1,{b with t:=b.t++[(qdn l).2]})
 |2=>(if (qds l).1=0∧qb2 b.h (qds l).2.1=true then 238 else (qds l).1,{b with h:=b.h++[(qds l).2]})
 |_=>(0,b)
noncomputable def qbl:Nat→List (List UInt8)→Bdy→Int×Int×Bdy
 |_,[],b=>(0,0,b)
 |n,l::t,b=>if (qck b l).1=0 then qbl (n+1) t (qck b l).2 else ((qck b l).1,((n+1:Nat):Int),qg2)
noncomputable def qeJ (l:List UInt8):Int×Int×Bdy:=if 65536<l.length then (3,0,qg2) else qbl 0 (L.linesL l) qg2
def qcN (w:World) (b:Nat) (ts:List (List UInt8)):Prop:=b<w.heap.size∧ ∀i,i<ts.length→w.cell? ⟨b,i,none⟩=some (.string (BS (ts.getD i [])))
theorem qcN.on {w W:World} {b:Nat} {ts:List (List UInt8)} (h:qcN w b ts) (hb:Below w.heap.size w W):qcN W b ts:=
 ⟨Nat.lt_of_lt_of_le h.1 hb.size,fun i hi=>(hb.cell (p:=⟨b,i,none⟩) h.1).trans (h.2 i hi)⟩
theorem qqZ (ts:List (List UInt8)) (i:Nat) (h:i<ts.length):ts.drop i=ts.getD i []::ts.drop (i+1):=by
 rw[List.drop_eq_getElem_cons h,List.getD_eq_getElem?_getD,List.getElem?_eq_getElem h];rfl
theorem qoJ (b cap:Nat) (ts:List (List UInt8)) (x:List UInt8) (hl:ts.length≤1000000000) (w:World) (h:qcN w b ts):
 Calls Tryz.prog 106 #[.slice (some ⟨b,0,none⟩) ts.length cap,.string (BS x)] w fun e w'=>(∃k:Int,e= .returned (.int .i64 k)∧decide (0≤k)=ts.contains x)∧w=w':=by
 have H:=Lh h;obtain⟨G,hG⟩: ∃G,Hid (G=ts.contains x):=⟨_,Lh rfl⟩;rw[←hG.out];obtain⟨m,hm⟩: ∃m,m=ts.length:=⟨_,rfl⟩;have hmh:=Lh hm;rw[←hm] at hl⊢;clear hm h;go_enter Tryz.func106,Tryz.ntmps106;go_wp2_with fail;go_loopg [8] (m+1) (fun gk s8 wx=> ∃i:Nat,i≤m∧m - i<gk∧s8= .int .i64 (i:Int)∧Hid (G=(ts.drop i).contains x)∧w=wx)
 case atStart=>exact⟨0,by omega,by omega,rfl,Lh hG.out,rfl⟩
 case round=>
  obtain⟨i,hi,hgk,rfl,hI,rfl⟩:=hrel
  by_cases hlt:i<m
  ·have u2:decide ((i:Int)<(m:Int))=true:=dT (by omega);have u3:decide (i<m)=true:=dT hlt;have hil:i<ts.length:=by rw[←hmh.out];exact hlt
   have x1:=H.out.2 i hil;have hI2:=hI.out;rw[qqZ ts i hil,List.contains_cons] at hI2;obtain⟨y,hy⟩: ∃y,Hid (y=ts.getD i []):=⟨_,Lh rfl⟩;rw[←hy.out] at x1 hI2;have he:((BS x).toList==(BS y).toList)=(x==y):=by rw[qad,qad]
   cases hxy:(x==y)with
   |true=>
    rw[hxy] at hI2 he;have hR:=Lh hI2;clear hxy hI hI2;go_wp2_with fail;go_ret;exact⟨⟨_,rfl,by rw[hR.out];exact dT (by omega)⟩,rfl⟩
   |false=>
    rw[hxy] at hI2 he;have hR:=Lh hI2;clear hxy hI hI2;go_wp2_with fail;go_roundg (gk - 1)
    case measure=>omega
    case rel=>exact⟨i+1,by omega,by omega,by go_num,Lh (by rw[hR.out];rfl),rfl⟩
  ·obtain rfl:i=m:=by omega
   have u2:decide ((i:Int)<(i:Int))=false:=dF (by omega);have hF:Hid (G=false):=Lh (by rw[hI.out,List.drop_of_length_le (by rw[←hmh.out];exact Nat.le_refl _)];rfl);clear hI;go_wp2_with fail;go_ret;exact⟨⟨_,rfl,by rw[hF.out];rfl⟩,rfl⟩
theorem qjz (b cap:Nat) (ts:List (List UInt8)) (x:List UInt8) (hl:ts.length≤1000000000) (w:World) (h:qcN w b ts):
 Calls Tryz.prog 48 #[.slice (some ⟨b,0,none⟩) ts.length cap,.string (BS x)] w fun e w'=>e= .returned (.bool (ts.contains x))∧w=w':=by
 have ci:=qoJ b cap ts x hl w h;obtain⟨G,hG⟩: ∃G,ts.contains x=G:=⟨_,rfl⟩;rw[hG] at ci⊢;replace ci:=Lh ci;clear h hG;go_enter Tryz.func48,Tryz.ntmps48;go_wp2_with fail;refine ci.out.mono ?_;rintro e w2 ⟨⟨k,rfl,hk⟩,rfl⟩;have hk2:decide (k≥0)=G:=hk;clear hk;go_wp2_with fail;go_ret;exact⟨by rw[←hk2];rfl,rfl⟩
theorem qkF (l:List UInt8) (hl:l.length≤65536) (w:World):Calls Tryz.prog 209 #[.string (BS l)] w fun e w'=>e= .returned (.pointer (some ⟨w.heap.size,0,none⟩))∧Lft w.heap.size (qa8 l) w'∧Below w.heap.size w w':=by
 have N:=Lh (Lft.new l w);have hR:Hid (qa8 l=tb (wr (tb (if ((tb l).head?==some 35)=true then (tb l).tail else tb l)))):=Lh rfl;have hl1:=Nat.le_trans (qbg l) hl;obtain⟨a,ha⟩: ∃a,tb l=a:=⟨_,rfl⟩;have cb1:=qao w.heap.size l _ N.out.1;rw[ha] at hR hl1 cb1;replace cb1:=Lh cb1;obtain⟨T,hT⟩: ∃T,T=qa8 l:=⟨_,rfl⟩;rw[←hT] at hR⊢;clear ha hT;go_enter Tryz.func209,Tryz.ntmps209;go_wp2_with fail;refine cb1.out.mono ?_;rintro e w1 ⟨rfl,H1,O1⟩;have B1:=Lh (Only.onB N.out.2 (Nat.le_refl _) O1 (by simp));clear cb1 O1 N;have cby:=qcQ w.heap.size 35 a w1 H1;obtain⟨b,hb⟩: ∃b,(if (a.head?==some 35)=true then a.tail else a)=b:=⟨_,rfl⟩
 have hbl:b.length≤65536:=by
  rw[←hb];split
  ·rw[List.length_tail];omega
  ·exact hl1
 rw[hb] at cby hR;replace cby:=Lh cby;clear hb H1;go_wp2_with fail;refine cby.out.mono ?_;rintro e w2 ⟨rfl,H2,O2⟩;have B2:=Lh (Only.onB B1.out (Nat.le_refl _) O2 B1.out.size);clear cby O2 B1;go_wp2_with fail;refine(qao w.heap.size b _ H2).mono ?_;rintro e w3 ⟨rfl,H3,O3⟩;have B3:=Lh (Only.onB B2.out (Nat.le_refl _) O3 B2.out.size);have hcl:=Nat.le_trans (qbg b) hbl;clear H2 O3 B2;go_wp2_with fail;refine(qbO w.heap.size (tb b) hcl _ H3).mono ?_;rintro e w4 ⟨rfl,H4,O4⟩;have B4:=Lh (Only.onB B3.out (Nat.le_refl _) O4 B3.out.size);clear H3 O4 B3;go_wp2_with fail;refine(qao w.heap.size (wr (tb b)) _ H4).mono ?_;rintro e w5 ⟨rfl,H5,O5⟩;have B5:=Lh (Only.onB B4.out (Nat.le_refl _) O5 B4.out.size);rw[←hR.out] at H5;replace H5:=Lh H5;clear H4 O5 B4;go_wp2_with fail;go_ret;exact⟨rfl,H5.out,B5.out⟩
abbrev qtw (q:Nat):Value:= .func (.func 155) #[] #[.pointer (some ⟨q,0,none⟩)]
theorem qpo (x:Lb) (n:List UInt8) (q:Nat) (w:World) (hq:q<w.heap.size) (hc:w.cell? ⟨q,0,none⟩=some (.string (BS n))):Calls Tryz.prog 155 #[.agg #[.string (BS x.1),.string (BS x.2)],.pointer (some ⟨q,0,none⟩)] w fun e w'=>e= .returned (.bool (x.1==n))∧Below w.heap.size w w':=by
 have hB: ∀ob,Hid (Below w.heap.size w (w.alloc ob)):=fun ob=>Lh ((Below.refl _ _).alloc (Nat.le_refl _) ob)
 have he:((BS x.1).toList==(BS n).toList)=(x.1==n):=by rw[qad,qad]
 obtain⟨b,hb⟩: ∃b,(x.1==n)=b:=⟨_,rfl⟩;rw[hb] at he⊢;clear hb;go_enter Tryz.func155,Tryz.ntmps155;go_wp2_with fail;go_ret;exact⟨by rw[←he];rfl,(hB _).out⟩
theorem ql5 (v:Value) (ls:List Lb) (n:List UInt8) (hl:ls.length≤1000000000) (q:Nat) (w:World) (hq:q<w.heap.size) (hc:w.cell? ⟨q,0,none⟩=some (.string (BS n))) (hr:qaN w v ls):
 Calls Tryz.prog 210 #[v,qtw q] w fun e w'=>(∃k:Int,e= .returned (.int .i64 k)∧decide (0≤k)=qb2 ls n)∧Below w.heap.size w w':=by
 obtain⟨a,c,rfl⟩:=hr.shape;have hrh:=Lh hr;clear hr;obtain⟨G,hG⟩: ∃G,Hid (G=qb2 ls n):=⟨_,Lh rfl⟩;rw[←hG.out];obtain⟨m,hm⟩: ∃m,m=ls.length:=⟨_,rfl⟩;have hmh:=Lh hm;rw[←hm] at hl⊢;clear hm;have cF:=Lh (fun (W:World) (x:Lb) (hB:Below w.heap.size w W)=>qpo x n q W (Nat.lt_of_lt_of_le hq hB.size) ((hB.cell (p:=⟨q,0,none⟩) hq).trans hc));clear hc hq;go_enter Tryz.func210,Tryz.ntmps210;go_wp2_with fail;go_loopg [8] (m+1) (fun gk s8 wx=> ∃i:Nat,i≤m∧m - i<gk∧s8= .int .i64 (i:Int)∧Hid (G=qb2 (ls.drop i) n)∧Hid (Below w.heap.size w wx))
 case atStart=>exact⟨0,by omega,by omega,rfl,Lh hG.out,Lh (Below.refl _ _)⟩
 case round=>
  obtain⟨i,hi,hgk,rfl,hI,B⟩:=hrel
  by_cases hlt:i<m
  ·have u2:decide ((i:Int)<(m:Int))=true:=dT (by omega);have u3:decide (i<m)=true:=dT hlt;have hil:i<ls.length:=by rw[←hmh.out];exact hlt
   obtain⟨b,off,rfl,hbl,x1,x2⟩:=(hrh.out.on B.out).at' i hil;have hI2:=hI.out;rw[qfq ls n i hil] at hI2;obtain⟨x,hx⟩: ∃x,Hid (x=ls.getD i lb0):=⟨_,Lh rfl⟩;rw[←hx.out] at x1 x2 hI2;have cf:=cF.out wr x B.out
   cases hxn:(x.1==n)with
   |true=>
    rw[hxn] at hI2 cf;have hR:=Lh hI2;replace cf:=Lh cf;clear hxn hI hI2 cF;go_wp2_with fail;refine cf.out.mono ?_;rintro e w2 ⟨rfl,B2⟩;have B3:=Lh (B.out.trans (B2.mono B.out.size));clear B2 cf;go_wp2_with fail;go_ret;exact⟨⟨_,rfl,by rw[hR.out];exact dT (by omega)⟩,B3.out⟩
   |false=>
    rw[hxn] at hI2 cf;have hR:=Lh hI2;replace cf:=Lh cf;clear hxn hI hI2 cF;go_wp2_with fail;refine cf.out.mono ?_;rintro e w2 ⟨rfl,B2⟩;have B3:=Lh (B.out.trans (B2.mono B.out.size));clear B2 cf;go_wp2_with fail;go_roundg (gk - 1)
    case measure=>omega
    case rel=>exact⟨i+1,by omega,by omega,by go_num,Lh (by rw[hR.out];rfl),B3⟩
  ·obtain rfl:i=m:=by omega
   have u2:decide ((i:Int)<(i:Int))=false:=dF (by omega);have hF:Hid (G=false):=Lh (by rw[hI.out,List.drop_of_length_le (by rw[←hmh.out];exact Nat.le_refl _)];rfl);clear hI;go_wp2_with fail;go_ret;exact⟨⟨_,rfl,by rw[hF.out];rfl⟩,B.out⟩
theorem qqN (v:Value) (ls:List Lb) (n:List UInt8) (hl:ls.length≤1000000000) (q:Nat) (w:World) (hq:q<w.heap.size) (hc:w.cell? ⟨q,0,none⟩=some (.string (BS n))) (hr:qaN w v ls):
 Calls Tryz.prog 154 #[v,qtw q] w fun e w'=>e= .returned (.bool (qb2 ls n))∧Below w.heap.size w w':=by
 have ci:=Lh (ql5 v ls n hl q w hq hc hr);obtain⟨a,c,rfl⟩:=hr.shape;clear hr hc;go_enter Tryz.func154,Tryz.ntmps154;go_wp2_with fail;refine ci.out.mono ?_;rintro e w2 ⟨⟨k,rfl,hk⟩,B2⟩;have hk2:decide (k≥0)=qb2 ls n:=hk;clear hk;go_wp2_with fail;go_ret;exact⟨by rw[←hk2];rfl,B2⟩
abbrev qto (q:Nat):Value:= .func (.func 158) #[] #[.pointer (some ⟨q,0,none⟩)]
theorem qpx (x:Lb) (n:List UInt8) (q:Nat) (w:World) (hq:q<w.heap.size) (hc:w.cell? ⟨q,0,none⟩=some (.string (BS n))):Calls Tryz.prog 158 #[.agg #[.string (BS x.1),.string (BS x.2)],.pointer (some ⟨q,0,none⟩)] w fun e w'=>e= .returned (.bool (x.1==n))∧Below w.heap.size w w':=by
 have hB: ∀ob,Hid (Below w.heap.size w (w.alloc ob)):=fun ob=>Lh ((Below.refl _ _).alloc (Nat.le_refl _) ob)
 have he:((BS x.1).toList==(BS n).toList)=(x.1==n):=by rw[qad,qad]
 obtain⟨b,hb⟩: ∃b,(x.1==n)=b:=⟨_,rfl⟩;rw[hb] at he⊢;clear hb;go_enter Tryz.func158,Tryz.ntmps158;go_wp2_with fail;go_ret;exact⟨by rw[←he];rfl,(hB _).out⟩
theorem qnI (v:Value) (ls:List Lb) (n:List UInt8) (hl:ls.length≤1000000000) (q:Nat) (w:World) (hq:q<w.heap.size) (hc:w.cell? ⟨q,0,none⟩=some (.string (BS n))) (hr:qaN w v ls):
 Calls Tryz.prog 212 #[v,qto q] w fun e w'=>(∃k:Int,e= .returned (.int .i64 k)∧decide (0≤k)=qb2 ls n)∧Below w.heap.size w w':=by
 obtain⟨a,c,rfl⟩:=hr.shape;have hrh:=Lh hr;clear hr;obtain⟨G,hG⟩: ∃G,Hid (G=qb2 ls n):=⟨_,Lh rfl⟩;rw[←hG.out];obtain⟨m,hm⟩: ∃m,m=ls.length:=⟨_,rfl⟩;have hmh:=Lh hm;rw[←hm] at hl⊢;clear hm;have cF:=Lh (fun (W:World) (x:Lb) (hB:Below w.heap.size w W)=>qpx x n q W (Nat.lt_of_lt_of_le hq hB.size) ((hB.cell (p:=⟨q,0,none⟩) hq).trans hc));clear hc hq;go_enter Tryz.func212,Tryz.ntmps212;go_wp2_with fail;go_loopg [8] (m+1) (fun gk s8 wx=> ∃i:Nat,i≤m∧m - i<gk∧s8= .int .i64 (i:Int)∧Hid (G=qb2 (ls.drop i) n)∧Hid (Below w.heap.size w wx))
 case atStart=>exact⟨0,by omega,by omega,rfl,Lh hG.out,Lh (Below.refl _ _)⟩
 case round=>
  obtain⟨i,hi,hgk,rfl,hI,B⟩:=hrel
  by_cases hlt:i<m
  ·have u2:decide ((i:Int)<(m:Int))=true:=dT (by omega);have u3:decide (i<m)=true:=dT hlt;have hil:i<ls.length:=by rw[←hmh.out];exact hlt
   obtain⟨b,off,rfl,hbl,x1,x2⟩:=(hrh.out.on B.out).at' i hil;have hI2:=hI.out;rw[qfq ls n i hil] at hI2;obtain⟨x,hx⟩: ∃x,Hid (x=ls.getD i lb0):=⟨_,Lh rfl⟩;rw[←hx.out] at x1 x2 hI2;have cf:=cF.out wr x B.out
   cases hxn:(x.1==n)with
   |true=>
    rw[hxn] at hI2 cf;have hR:=Lh hI2;replace cf:=Lh cf;clear hxn hI hI2 cF;go_wp2_with fail;refine cf.out.mono ?_;rintro e w2 ⟨rfl,B2⟩;have B3:=Lh (B.out.trans (B2.mono B.out.size));clear B2 cf;go_wp2_with fail;go_ret;exact⟨⟨_,rfl,by rw[hR.out];exact dT (by omega)⟩,B3.out⟩
   |false=>
    rw[hxn] at hI2 cf;have hR:=Lh hI2;replace cf:=Lh cf;clear hxn hI hI2 cF;go_wp2_with fail;refine cf.out.mono ?_;rintro e w2 ⟨rfl,B2⟩;have B3:=Lh (B.out.trans (B2.mono B.out.size));clear B2 cf;go_wp2_with fail;go_roundg (gk - 1)
    case measure=>omega
    case rel=>exact⟨i+1,by omega,by omega,by go_num,Lh (by rw[hR.out];rfl),B3⟩
  ·obtain rfl:i=m:=by omega
   have u2:decide ((i:Int)<(i:Int))=false:=dF (by omega);have hF:Hid (G=false):=Lh (by rw[hI.out,List.drop_of_length_le (by rw[←hmh.out];exact Nat.le_refl _)];rfl);clear hI;go_wp2_with fail;go_ret;exact⟨⟨_,rfl,by rw[hF.out];rfl⟩,B.out⟩
theorem qrh (v:Value) (ls:List Lb) (n:List UInt8) (hl:ls.length≤1000000000) (q:Nat) (w:World) (hq:q<w.heap.size) (hc:w.cell? ⟨q,0,none⟩=some (.string (BS n))) (hr:qaN w v ls):
 Calls Tryz.prog 157 #[v,qto q] w fun e w'=>e= .returned (.bool (qb2 ls n))∧Below w.heap.size w w':=by
 have ci:=Lh (qnI v ls n hl q w hq hc hr);obtain⟨a,c,rfl⟩:=hr.shape;clear hr hc;go_enter Tryz.func157,Tryz.ntmps157;go_wp2_with fail;refine ci.out.mono ?_;rintro e w2 ⟨⟨k,rfl,hk⟩,B2⟩;have hk2:decide (k≥0)=qb2 ls n:=hk;clear hk;go_wp2_with fail;go_ret;exact⟨by rw[←hk2];rfl,B2⟩
end Go.Proofs.YtdeimnnpcfncpaaGreatDoor.X
