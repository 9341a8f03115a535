/- Parts of the proof: P3 P4 P5 P6. -/
import Derived.Deep.RegionHeld3
import Derived.Deep.RegionLaw
import Derived.Test.YtdeimnnpcfncpaaGreatDoorCY37
set_option linter.unusedVariables false
set_option linter.unusedSimpArgs false
set_option maxRecDepth 100000
set_option maxHeartbeats 64000000
namespace Go.Proofs.YtdeimnnpcfncpaaGreatDoor.X
open Go Go.RowKit
def LB (T:TypeId) (D:Nat) (a b:List UInt8) (W:World):Prop:=W.heap[D]?=some (.cells #[.string (BS a),.string (BS b)] T (0,0))
section
variable {T:TypeId} {D:Nat} {a b:List UInt8} {W W':World}
theorem LB.lt (h:LB T D a b W):D<W.heap.size:=(Array.getElem?_eq_some_iff.1 h).1
theorem LB.on (h:LB T D a b W) (hb:Below W.heap.size W W'):LB T D a b W':=(hb.block D h.lt).trans h
theorem LB.only {E:Nat} (h:LB T D a b W) (hb:Only E W W') (hn:D≠E):LB T D a b W':=(hb.block D h.lt hn).trans h
theorem LB.c0 (h:LB T D a b W):W.cell? ⟨D,0,none⟩=some (.string (BS a)):=by rw[Lib.cell_of_heap h];rfl
theorem LB.c1 (h:LB T D a b W):W.cell? ⟨D,1,none⟩=some (.string (BS b)):=by rw[Lib.cell_of_heap h];rfl
theorem LB.fz (h:LB T D a b W) (i:Nat):W.frozen? ⟨D,i,none⟩=false:=Lib.frozen_of_heap h i
theorem LB.set0 (h:LB T D a b W) (v:List UInt8):LB T D v b (W.setCell ⟨D,0,none⟩ (.string (BS v))):=by
 unfold LB at h⊢;simp[World.setCell,Array.getElem?_modify,h]
theorem LB.set1 (h:LB T D a b W) (v:List UInt8):LB T D a v (W.setCell ⟨D,1,none⟩ (.string (BS v))):=by
 unfold LB at h⊢;simp[World.setCell,Array.getElem?_modify,h]
end
theorem qcb {fn:Func} {p u:Tmp} (h:fn.results=#[.cell p 88,.tmp u]) (tmps:Array Value) (w:World) (R:Nat) (a b:List UInt8) (hp:tmps.getD p undef= .pointer (some ⟨R,0,none⟩)) (hd:LB 88 R a b w):
 (results fn tmps).run Tryz.prog w= .ok (.tuple #[.agg #[.string (BS a),.string (BS b)],tmps.getD u undef]) w:=by
 have c0:=hd.c0;have c1:=hd.c1;rw[results_cell_tmp h,hp];go_simp
theorem qcc {fn:Func} {p u:Tmp} (h:fn.results=#[.cell p 90,.tmp u]) (tmps:Array Value) (w:World) (R:Nat) (a b:List UInt8) (hp:tmps.getD p undef= .pointer (some ⟨R,0,none⟩)) (hd:LB 90 R a b w):
 (results fn tmps).run Tryz.prog w= .ok (.tuple #[.agg #[.string (BS a),.string (BS b)],tmps.getD u undef]) w:=by
 have c0:=hd.c0;have c1:=hd.c1;rw[results_cell_tmp h,hp];go_simp
theorem qlf (l:List UInt8):(qa8 l).length≤l.length:=by
 unfold qa8;have h1:=qbg l;have h2:=qbg (if ((tb l).head?==some 35)=true then (tb l).tail else tb l);have h3:=qgB (tb (if ((tb l).head?==some 35)=true then (tb l).tail else tb l));have h4:=qbg (wr (tb (if ((tb l).head?==some 35)=true then (tb l).tail else tb l)))
 have h5:(if ((tb l).head?==some 35)=true then (tb l).tail else tb l).length≤(tb l).length:=by
  split
  ·rw[List.length_tail];omega
  ·exact Nat.le_refl _
 omega
theorem qpt (l:List UInt8):(wd l).length≤l.length:=(qbc nb l).2.2
theorem qgW: ∀l:List UInt8,(rdh l).2.length≤l.length
 | []=>Nat.le_refl _
 | [c]=>by
   rw[rdh]
   split
   ·simp
   ·split<;>simp
 |c::x::t=>by
  have ih1:=qgW t;have ih2:=qgW (x::t)
  have hc: ∀p r,(qba p r).2.length≤p.length+r.2.length:=fun p r=>by
   unfold qba;split<;>simp
  rw[rdh]
  split
  ·simp
  ·split
   ·split
    ·simp
    ·have h1:=hc (qgD x) (rdh t);have h2:(qgD x).length≤1:=by unfold qgD;(repeat' split)<;>simp
     simp only[List.length_cons] at*;omega
   ·have h1:=hc [c] (rdh (x::t));simp only[List.length_cons,List.length_nil] at*;omega
def qml (r:Int×Lb) (w:World) (e:Ending) (w':World):Prop:=e= .returned (.tuple #[.agg #[.string (BS r.2.1),.string (BS r.2.2)],.int .i64 r.1])∧Below w.heap.size w w'
def TpI (T:TypeId) (w0:World) (l:List UInt8) (W:World):Prop:=LB T w0.heap.size [] [] W∧Lft (w0.heap.size+1) l W∧Below w0.heap.size w0 W
theorem TpI.step {T:TypeId} {w0 W W':World} {l r:List UInt8} (h:TpI T w0 l W) (h1:Lft (w0.heap.size+1) r W') (h2:Only (w0.heap.size+1) W W'):TpI T w0 r W':=
 ⟨h.1.only h2 (by omega),h1,h.2.2.trans (h2.below (by omega) h.2.2.size)⟩
theorem TpI.on {T:TypeId} {w0 W W':World} {l:List UInt8} (h:TpI T w0 l W) (hb:Below W.heap.size W W'):TpI T w0 l W':=
 ⟨h.1.on hb,h.2.1.on hb,h.2.2.trans (hb.mono h.2.2.size)⟩
theorem TpI.fin {T:TypeId} {w0 W:World} {l:List UInt8} (h:TpI T w0 l W) (a b:List UInt8):LB T w0.heap.size a b ((W.setCell ⟨w0.heap.size,0,none⟩ (.string (BS a))).setCell ⟨w0.heap.size,1,none⟩ (.string (BS b)))∧
 Below w0.heap.size w0 ((W.setCell ⟨w0.heap.size,0,none⟩ (.string (BS a))).setCell ⟨w0.heap.size,1,none⟩ (.string (BS b))):=
 ⟨(h.1.set0 a).set1 b,(h.2.2.setCell (p:=⟨w0.heap.size,0,none⟩) (Nat.le_refl _) _).setCell (p:=⟨w0.heap.size,1,none⟩) (Nat.le_refl _) _⟩
theorem qqs (l:List UInt8) (hl:l.length≤65536) (w:World):Calls Tryz.prog 156 #[.string (BS l)] w (qml (qds l) w):=by
 have hR:Hid (qds l=if qan 58 (wd (qa8 l))=true∧(rdh (tb (wr (qa8 l)))).1=0∧((L.ck (BS (rdh (tb (wr (qa8 l)))).2)).2==0)=true then (0,(wd (qa8 l),(rdh (tb (wr (qa8 l)))).2)) else (237,lb0)):=Lh rfl;obtain⟨R,hRR⟩: ∃R,R=qds l:=⟨_,rfl⟩;rw[←hRR] at hR⊢;have B0:Below w.heap.size w (w.alloc (.cells #[.string (BS []),.string (BS [])] 90)):=(Below.refl _ _).alloc (Nat.le_refl _) _;have N0:LB 90 w.heap.size [] [] (w.alloc (.cells #[.string (BS []),.string (BS [])] 90)):=World.alloc_heap_new w _;have ct:=qkF l hl (w.alloc (.cells #[.string (BS []),.string (BS [])] 90));rw[World.size_alloc] at ct;have htl:=qlf l;obtain⟨a,ha⟩: ∃a,qa8 l=a:=⟨_,rfl⟩;rw[ha] at hR ct htl;replace B0:=Lh B0;replace N0:=Lh N0;replace ct:=Lh ct;have hw1:=qpt a;have hw2:=qgB a;clear ha hRR;go_enter Tryz.func156,Tryz.ntmps156;go_wp2_with fail;refine ct.out.mono ?_;rintro e w1 ⟨rfl,H,B⟩;have I1:Hid (TpI 90 w a w1):=Lh ⟨N0.out.on (by rw[World.size_alloc];exact B),H,B0.out.trans (B.mono (by omega))⟩;clear H B N0 B0 ct;obtain⟨n,hn⟩: ∃n,wd a=n:=⟨_,rfl⟩;obtain⟨b0,hb0⟩: ∃b,wr a=b:=⟨_,rfl⟩;have cw:=qbO (w.heap.size+1) a (by omega) w1 I1.out.2.1;rw[hn,hb0] at cw hR;rw[hn] at hw1;rw[hb0] at hw2;replace cw:=Lh cw;clear hn hb0;go_wp2_with fail;refine cw.out.mono ?_;rintro e w2 ⟨rfl,H,O⟩;have I2:=Lh (I1.out.step H O);clear H O I1 cw;go_wp2_with fail;refine(qao (w.heap.size+1) b0 _ I2.out.2.1).mono ?_;rintro e w3 ⟨rfl,H,O⟩;have I3:=Lh (I2.out.step H O);have hb1:=qbg b0;obtain⟨b,hb⟩: ∃b,tb b0=b:=⟨_,rfl⟩;rw[hb] at I3 hb1 hR;clear H O I2 hb;have k3:=I3.out.2.1.cell;have ch:=L.help_any b (by omega) w3;have hrl:=qgW b;obtain⟨q,hq⟩: ∃q,rdh b=q:=⟨_,rfl⟩;rw[hq] at ch hR hrl;obtain⟨er,tx⟩:=q;simp only at ch hR hrl;replace ch:=Lh ch;clear hq;go_wp2_with fail;refine ch.out.mono ?_;rintro e w4 ⟨rfl,B⟩;have I4:=Lh (I3.out.on B);clear B I3 ch k3;have cm:=fun W=>qch (BS n) (by rw[qac];omega) W
 rw[show(BS n).data.toList=n by simp[BS]] at cm;have cv:=fun W=>L.valid_any (BS tx) (by rw[qac];omega) W
 obtain⟨m1,hm1⟩: ∃m1,qan 58 n=m1:=⟨_,rfl⟩;obtain⟨m3,hm3⟩: ∃m3,((L.ck (BS tx)).2==0)=m3:=⟨_,rfl⟩;rw[hm1] at cm hR;rw[hm3] at cv hR;replace cm:=Lh cm;replace cv:=Lh cv;clear hm1 hm3;have z0:=I4.out.1.c0;have z1:=I4.out.1.c1;have y0:=I4.out.1.fz 0;have y1:=I4.out.1.fz 1
 by_cases he:er=0
 ·subst he
  cases m1 with
  |false=>
   rw[if_neg (by simp)] at hR;have F:=Lh (I4.out.fin [] []);clear I4;go_wp2_with fail;refine(cm.out _).mono ?_;rintro e w5 ⟨rfl,rfl⟩;go_wp2_with fail;refine bodyPost_ret (qcc rfl _ _ _ _ _ rfl F.out.1) rfl ?_;exact⟨by rw[hR.out];rfl,F.out.2⟩
  |true=>
   cases m3 with
   |false=>
    rw[if_neg (by simp)] at hR;have F:=Lh (I4.out.fin [] []);clear I4;go_wp2_with fail;refine(cm.out _).mono ?_;rintro e w5 ⟨rfl,rfl⟩;go_wp2_with fail;refine(cv.out _).mono ?_;rintro e w5 ⟨rfl,rfl⟩;go_wp2_with fail;refine bodyPost_ret (qcc rfl _ _ _ _ _ rfl F.out.1) rfl ?_;exact⟨by rw[hR.out];rfl,F.out.2⟩
   |true=>
    rw[if_pos ⟨rfl,rfl,rfl⟩] at hR;have F:=Lh (I4.out.fin n tx);clear I4;go_wp2_with fail;refine(cm.out _).mono ?_;rintro e w5 ⟨rfl,rfl⟩;go_wp2_with fail;refine(cv.out _).mono ?_;rintro e w5 ⟨rfl,rfl⟩;go_wp2_with fail;refine bodyPost_ret (qcc rfl _ _ _ _ _ rfl F.out.1) rfl ?_;exact⟨by rw[hR.out];rfl,F.out.2⟩
 ·have u1:(er !=0)=true:=by simpa using he
  rw[if_neg (fun h=>he h.2.1)] at hR;have F:=Lh (I4.out.fin [] []);clear I4 he;cases m1
  all_goals
   go_wp2_with fail;refine(cm.out _).mono ?_;rintro e w5 ⟨rfl,rfl⟩;go_wp2_with fail;refine bodyPost_ret (qcc rfl _ _ _ _ _ rfl F.out.1) rfl ?_;exact⟨by rw[hR.out];rfl,F.out.2⟩
theorem qtV (W:World):qcN (W.alloc (.cells #[.string ⟨#[99,111,117,110,116,101,114]⟩,.string ⟨#[103,97,117,103,101]⟩,.string ⟨#[104,105,115,116,111,103,114,97,109]⟩,.string ⟨#[115,117,109,109,97,114,121]⟩,.string ⟨#[117,110,116,121,112,101,100]⟩] 258)) W.heap.size qgz:=by
 refine⟨by simp,fun i hi=>?_⟩;rw[Lib.cell_of_heap (World.alloc_heap_new W _)];have h5:i<5:=hi;rcases(by omega:i=0∨i=1∨i=2∨i=3∨i=4)with rfl|rfl|rfl|rfl|rfl<;>rfl
theorem qpf (l:List UInt8) (hl:l.length≤65536) (w:World):Calls Tryz.prog 153 #[.string (BS l)] w (qml (qdn l) w):=by
 have hR:Hid (qdn l=if qan 58 (wd (qa8 l))=true∧qgz.contains (wd (tb (wr (qa8 l))))=true∧tb (wr (tb (wr (qa8 l))))=[] then (0,(wd (qa8 l),wd (tb (wr (qa8 l))))) else (236,lb0)):=Lh rfl;obtain⟨R,hRR⟩: ∃R,R=qdn l:=⟨_,rfl⟩;rw[←hRR] at hR⊢;have B0:Below w.heap.size w (w.alloc (.cells #[.string (BS []),.string (BS [])] 88)):=(Below.refl _ _).alloc (Nat.le_refl _) _;have N0:LB 88 w.heap.size [] [] (w.alloc (.cells #[.string (BS []),.string (BS [])] 88)):=World.alloc_heap_new w _;have ct:=qkF l hl (w.alloc (.cells #[.string (BS []),.string (BS [])] 88));rw[World.size_alloc] at ct;have htl:=qlf l;obtain⟨a,ha⟩: ∃a,qa8 l=a:=⟨_,rfl⟩;rw[ha] at hR ct htl;replace B0:=Lh B0;replace N0:=Lh N0;replace ct:=Lh ct;have hw1:=qpt a;have hw2:=qgB a;clear ha hRR;go_enter Tryz.func153,Tryz.ntmps153;go_wp2_with fail;refine ct.out.mono ?_;rintro e w1 ⟨rfl,H,B⟩;have I1:Hid (TpI 88 w a w1):=Lh ⟨N0.out.on (by rw[World.size_alloc];exact B),H,B0.out.trans (B.mono (by omega))⟩;clear H B N0 B0 ct;obtain⟨n,hn⟩: ∃n,wd a=n:=⟨_,rfl⟩;obtain⟨b0,hb0⟩: ∃b,wr a=b:=⟨_,rfl⟩;have cw:=qbO (w.heap.size+1) a (by omega) w1 I1.out.2.1;rw[hn,hb0] at cw hR;rw[hn] at hw1;rw[hb0] at hw2;replace cw:=Lh cw;clear hn hb0;go_wp2_with fail;refine cw.out.mono ?_;rintro e w2 ⟨rfl,H,O⟩;have I2:=Lh (I1.out.step H O);clear H O I1 cw;go_wp2_with fail;refine(qao (w.heap.size+1) b0 _ I2.out.2.1).mono ?_;rintro e w3 ⟨rfl,H,O⟩;have I3:=Lh (I2.out.step H O);have hb1:=qbg b0;obtain⟨b,hb⟩: ∃b,tb b0=b:=⟨_,rfl⟩;rw[hb] at I3 hb1 hR;clear H O I2 hb;have hk1:=qpt b;have hk2:=qgB b;obtain⟨k,hk⟩: ∃k,wd b=k:=⟨_,rfl⟩;obtain⟨c0,hc0⟩: ∃c,wr b=c:=⟨_,rfl⟩;have cw:=qbO (w.heap.size+1) b (by omega) w3 I3.out.2.1;rw[hk,hc0] at cw hR;rw[hk] at hk1;rw[hc0] at hk2;replace cw:=Lh cw;clear hk hc0;go_wp2_with fail;refine cw.out.mono ?_;rintro e w4 ⟨rfl,H,O⟩;have I4:=Lh (I3.out.step H O);clear H O I3 cw;go_wp2_with fail;refine(qao (w.heap.size+1) c0 _ I4.out.2.1).mono ?_;rintro e w5 ⟨rfl,H,O⟩;have I5:=Lh (I4.out.step H O);obtain⟨c,hc⟩: ∃c,tb c0=c:=⟨_,rfl⟩;rw[hc] at I5 hR;clear H O I4 hc;have T6:=Lh (qtV w5);have I6:=Lh (I5.out.on ((Below.refl w5.heap.size w5).alloc (Nat.le_refl _) (.cells #[.string ⟨#[99,111,117,110,116,101,114]⟩,.string ⟨#[103,97,117,103,101]⟩,.string ⟨#[104,105,115,116,111,103,114,97,109]⟩,.string ⟨#[115,117,109,109,97,114,121]⟩,.string ⟨#[117,110,116,121,112,101,100]⟩] 258)));have cs:=Lh (qjz w5.heap.size 5 qgz k (by decide) _ T6.out);have k6:=I6.out.2.1.cell;have z0:=I6.out.1.c0;have z1:=I6.out.1.c1;have y0:=I6.out.1.fz 0;have y1:=I6.out.1.fz 1;have cm:=fun W=>qch (BS n) (by rw[qac];omega) W
 rw[show(BS n).data.toList=n by simp[BS]] at cm;obtain⟨m1,hm1⟩: ∃m1,qan 58 n=m1:=⟨_,rfl⟩;obtain⟨m2,hm2⟩: ∃m2,qgz.contains k=m2:=⟨_,rfl⟩;rw[hm1] at cm hR;rw[hm2] at cs hR;replace cm:=Lh cm;have cs':Hid (Calls Tryz.prog 48 #[.slice (some ⟨w5.heap.size,0,none⟩) 5 5,.string (BS k)] (w5.alloc (.cells #[.string ⟨#[99,111,117,110,116,101,114]⟩,.string ⟨#[103,97,117,103,101]⟩,.string ⟨#[104,105,115,116,111,103,114,97,109]⟩,.string ⟨#[115,117,109,109,97,114,121]⟩,.string ⟨#[117,110,116,121,112,101,100]⟩] 258)) fun e w'=>e= .returned (.bool m2)∧(w5.alloc (.cells #[.string ⟨#[99,111,117,110,116,101,114]⟩,.string ⟨#[103,97,117,103,101]⟩,.string ⟨#[104,105,115,116,111,103,114,97,109]⟩,.string ⟨#[115,117,109,109,97,114,121]⟩,.string ⟨#[117,110,116,121,112,101,100]⟩] 258))=w'):=cs;clear hm1 hm2 T6 I5 cs
 cases m1 with
 |false=>
  rw[if_neg (by simp)] at hR;have F:=Lh (I6.out.fin [] []);clear I6;go_wp2_with fail;refine(cm.out _).mono ?_;rintro e w7 ⟨rfl,rfl⟩;go_wp2_with fail;refine bodyPost_ret (qcb rfl _ _ _ _ _ rfl F.out.1) rfl ?_;exact⟨by rw[hR.out];rfl,F.out.2⟩
 |true=>
  cases m2 with
  |false=>
   rw[if_neg (by simp)] at hR;have F:=Lh (I6.out.fin [] []);clear I6;go_wp2_with fail;refine(cm.out _).mono ?_;rintro e w7 ⟨rfl,rfl⟩;go_wp2_with fail;refine cs'.out.mono ?_;rintro e w7 ⟨rfl,rfl⟩;go_wp2_with fail;refine bodyPost_ret (qcb rfl _ _ _ _ _ rfl F.out.1) rfl ?_;exact⟨by rw[hR.out];rfl,F.out.2⟩
  |true=>
   by_cases hc0:c=[]
   ·subst hc0;have e5:(BS ([]:List UInt8)).toList.isEmpty=true:=by rw[qad];rfl
    rw[if_pos ⟨rfl,rfl,rfl⟩] at hR;have F:=Lh (I6.out.fin n k);clear I6;go_wp2_with fail;refine(cm.out _).mono ?_;rintro e w7 ⟨rfl,rfl⟩;go_wp2_with fail;refine cs'.out.mono ?_;rintro e w7 ⟨rfl,rfl⟩;go_wp2_with fail;refine bodyPost_ret (qcb rfl _ _ _ _ _ rfl F.out.1) rfl ?_;exact⟨by rw[hR.out];rfl,F.out.2⟩
   ·have e5:(BS c).toList.isEmpty=false:=by rw[qad];simpa using hc0
    rw[if_neg (fun h=>hc0 h.2.2)] at hR;have F:=Lh (I6.out.fin [] []);clear I6 hc0;go_wp2_with fail;refine(cm.out _).mono ?_;rintro e w7 ⟨rfl,rfl⟩;go_wp2_with fail;refine cs'.out.mono ?_;rintro e w7 ⟨rfl,rfl⟩;go_wp2_with fail;refine bodyPost_ret (qcb rfl _ _ _ _ _ rfl F.out.1) rfl ?_;exact⟨by rw[hR.out];rfl,F.out.2⟩
abbrev SV:=Smp×Value
def qr8 (p:SV):List Value:=[p.2,.int .u64 (p.1.bits:Int),.bool p.1.st,.int .i64 p.1.t]
def qb5 (ps:List SV):List Value:=ps.flatMap qr8
theorem qiE (a b:List SV):qb5 (a++b)=qb5 a++qb5 b:=by simp[qb5]
def qsH (base:Nat) (W:World) (v:Value) (ss:List Smp):Prop:=
 ∃ps:List SV,ps.map Prod.fst=ss∧W.ownsRow base 34 4 v ps.length (qb5 ps)∧ ∀p∈ps,W.ownsRow base 44 2 p.2 p.1.ls.length (qaa p.1.ls)
def BdV (base:Nat) (W:World) (sv tv hv:Value) (b:Bdy):Prop:=qsH base W sv b.s∧W.ownsRow base 88 2 tv b.t.length (qaa b.t)∧W.ownsRow base 90 2 hv b.h.length (qaa b.h)
def BdR (base D:Nat) (b:Bdy) (W:World):Prop:= ∃sv tv hv,W.heap[D]?=some (.cells #[sv,tv,hv] 66 (0,0))∧BdV base W sv tv hv b
structure Kept (D:Nat) (w w':World):Prop where
 os:w'.os=w.os
 tape:w'.tape=w.tape
 output:w'.output=w.output
 size:w.heap.size≤w'.heap.size
 block: ∀k o,w.heap[k]?=some o→k≠D→(∀cur T fz,o= .cells cur T fz→T≠34∧T≠88∧T≠90)→w'.heap[k]?=some o
theorem Kept.of {D:Nat} {w w':World} (h:Below w.heap.size w w'):Kept D w w':=⟨h.os,h.tape,h.output,h.size,fun k o hk _ _=>(h.block k (Array.getElem?_eq_some_iff.1 hk).1).trans hk⟩
theorem Kept.trans {D:Nat} {a b c:World} (h:Kept D a b) (k:Kept D b c):Kept D a c:=
 ⟨k.os.trans h.os,k.tape.trans h.tape,k.output.trans h.output,Nat.le_trans h.size k.size,fun i o hi hn ho=>k.block i o (h.block i o hi hn ho) hn ho⟩
theorem Kept.set {D:Nat} (w:World) (i:Nat) (v:Value):Kept D w (w.setCell ⟨D,i,none⟩ v):=
 ⟨rfl,rfl,rfl,by simp[World.setCell],fun k o hk hn _=>by unfold World.setCell;simp[Array.getElem?_modify,Ne.symm hn,hk]⟩
theorem qoD {base:Nat} {W W':World} {v:Value} {ss:List Smp} (h:qsH base W v ss) (hb:Below W.heap.size W W'):qsH base W' v ss:=by
 obtain⟨ps,h1,h2,h3⟩:=h;exact⟨ps,h1,qah h2 hb,fun p hp=>qah (h3 p hp) hb⟩
theorem qss {base:Nat} {W W':World} {sv tv hv:Value} {b:Bdy} (h:BdV base W sv tv hv b) (hb:Below W.heap.size W W'):BdV base W' sv tv hv b:=⟨qoD h.1 hb,qah h.2.1 hb,qah h.2.2 hb⟩
theorem qdY {base D:Nat} {W W':World} {b:Bdy} (h:BdR base D b W) (hb:Below W.heap.size W W'):BdR base D b W':=by
 obtain⟨sv,tv,hv,h1,h2⟩:=h;exact⟨sv,tv,hv,(hb.block D (Array.getElem?_eq_some_iff.1 h1).1).trans h1,qss h2 hb⟩
theorem qaL {w w':World} {base e k n D:Nat} {v:Value} {xs:List Value} {cur:Array Value} {T:TypeId} {fz:Nat×Nat} (h:w.ownsRow base e k v n xs) (hb:Only D w w') (hD:w.heap[D]?=some (.cells cur T fz)) (hT:e≠T):w'.ownsRow base e k v n xs:=by
 refine⟨h.1,?_⟩;rcases h.2 with h'|⟨g,cap,cur2,h1,h2,h3,h4⟩
 ·exact .inl h'
 ·refine .inr ⟨g,cap,cur2,h1,h2,(hb.block g (Array.getElem?_eq_some_iff.1 h3).1 (fun e'=>?_)).trans h3,h4⟩;subst e';rw[h3] at hD;simp only[Option.some.injEq,Obj.cells.injEq] at hD;exact hT hD.2.1
theorem qaA {w w':World} {base e k n base' e' k' n':Nat} {v v':Value} {xs xs':List Value} (h:w.ownsRow base e k v n xs) (h':w.ownsRow base' e' k' v' n' xs') (hne:e≠e')
 (hk: ∀row,v'.ownBlock≠some row→row<w.heap.size→w'.heap[row]?=w.heap[row]?):w'.ownsRow base e k v n xs:=by
 refine⟨h.1,?_⟩;rcases h.2 with h1|⟨g,cap,cur,h1,h2,h3,h4⟩
 ·exact .inl h1
 ·refine .inr ⟨g,cap,cur,h1,h2,(hk g (fun e2=>?_) (Array.getElem?_eq_some_iff.1 h3).1).trans h3,h4⟩;rcases h'.2 with ⟨rfl,_⟩|⟨g',cap',cur',rfl,_,h3',_⟩
  ·cases e2
  ·cases e2;rw[h3] at h3';simp only[Option.some.injEq,Obj.cells.injEq] at h3';exact hne h3'.2.1
theorem qdG {D:Nat} {w w':World} {base e k n:Nat} {v:Value} {xs:List Value} (h:w.ownsRow base e k v n xs) (he:e=34∨e=88∨e=90) (hb:Below base w w') (hs:w.heap.size≤w'.heap.size)
 (hk: ∀row,v.ownBlock≠some row→row<w.heap.size→w'.heap[row]?=w.heap[row]?):Kept D w w':=by
 refine⟨hb.os,hb.tape,hb.output,hs,fun j o hj _ ho=>?_⟩;refine(hk j (fun e2=>?_) (Array.getElem?_eq_some_iff.1 hj).1).trans hj;rcases h.2 with ⟨rfl,_⟩|⟨g,cap,cur,rfl,_,h3,_⟩
 ·cases e2
 ·cases e2;rw[hj] at h3;have:=ho cur e (0,0) (Option.some.inj h3);rcases he with rfl|rfl|rfl
  ·exact absurd rfl this.1
  ·exact absurd rfl this.2.1
  ·exact absurd rfl this.2.2
theorem qkY:(Tryz.prog.info? 34).map (fun i=>(i.zero,i.size,i.bytes))=some (some (.agg #[.slice none 0 0,.int .u64 0,.bool false,.int .i64 0]),4,48):=by kernel_rfl
theorem qlk:(Tryz.prog.info? 88).map (fun i=>(i.zero,i.size,i.bytes))=some (some (.agg #[.string ⟨#[]⟩,.string ⟨#[]⟩]),2,32):=by kernel_rfl
theorem qjw:(Tryz.prog.info? 90).map (fun i=>(i.zero,i.size,i.bytes))=some (some (.agg #[.string ⟨#[]⟩,.string ⟨#[]⟩]),2,32):=by kernel_rfl
theorem qco {P:Program} {ops:Array Oper} {o:Oper} {a:Act} {w:World} {K:Act→World→Prop} {Q:Exit→Act→World→Prop} {E:Prop} (hgd:o.guard=none) (s x:Operand) (t:TypeId)
 (ho:o.op= .call {callee:= .builtin .append,args:=#[s,x],argTypes:=#[t,t]})
 (base:Nat) (e:TypeId) (k:Nat) (hk:0<k) (z:Value) (bytes:Nat) (ht:P.underlying t=some (.slice e)) (hinfo:(P.info? e).map (fun i=>(i.zero,i.size,i.bytes))=some (some z,k,bytes)) (hzs:z.cells.size=k)
 (v:Value) (n:Nat) (xs:List Value) (hs:a.eval s=v) (B:Nat) (C:List Value) (hx:a.eval x= .slice (some ⟨B,0,none⟩) 1 1) (hC:C.length=k) (hown:w.ownsRow base e k v n xs) (hc: ∀j u,C[j]?=some u→w.cell? ⟨B,j,none⟩=some u) (hone: ∀c∈C,c.oneCell'=true)
 (hb1:1≤bytes) (hbytes:(n+1)*bytes≤140737488355328) (hbase:base≤w.heap.size)
 (h: ∀v' w',w'.ownsRow base e k v' (n+1) (xs++C)→Below base w w'→w.heap.size≤w'.heap.size→(∀row,v.ownBlock≠some row→row<w.heap.size→w'.heap[row]?=w.heap[row]?)→K (a.put o.dst v') w'):
 if Region.wanted o (yielded ops a.tmps)=true then Oper.wp P o a w K Q else E:=by
 have hw:Region.wanted o (yielded ops a.tmps)=true:=by simp[Region.wanted,hgd]
 rw[if_pos hw];obtain⟨i,hi,hz0,hz1,hz2⟩:=info_parts hinfo;have hn:n+1≤(n+1)*bytes:=Nat.le_mul_of_pos_right _ hb1;refine wp_append_own w s x t ho base e i z k bytes ht hi hz0 hz1 hz2 hzs hk v n xs hs hown ⟨B,0,none⟩ 1 1 C hx (by omega) ?_ hone (by unfold maxLen;omega) hbytes hbase ?_
 ·intro j u hj;rw[show(⟨B,0,none⟩:Addr).add j=⟨B,j,none⟩ by simp[Addr.add];omega];exact hc j u hj
 ·intro v' w' hown' hg hnil;exact h v' w' hown' ((Below.refl base w).grown hg hbase (fun k e'=>(hown.lt k e').1)) hg.size (fun row hrow hlt=>hg.block row hlt (fun e'=>hrow e'.symm))
def qir (base B0 D:Nat) (r:Int×Bdy) (w:World) (e:Ending) (w':World):Prop:=e= .returned (.int .i64 r.1)∧BdR base D r.2 w'∧Kept D w w'∧Below B0 w w'
theorem qbd (C:List Value) (W:World) (B:Nat) (T:TypeId) (h:W.heap[B]?=some (.cells C.toArray T (0,0))): ∀j u,C[j]?=some u→W.cell? ⟨B,j,none⟩=some u:=fun j u hj=>by
 rw[Lib.cell_of_heap h];simpa using hj
structure SmI (base D:Nat) (W:World) (b:Bdy) (sv tv hv:Value) (ps:List SV):Prop where
 h:W.heap[D]?=some (.cells #[sv,tv,hv] 66 (0,0))
 m:ps.map Prod.fst=b.s
 s:W.ownsRow base 34 4 sv ps.length (qb5 ps)
 l: ∀p∈ps,W.ownsRow base 44 2 p.2 p.1.ls.length (qaa p.1.ls)
 t:W.ownsRow base 88 2 tv b.t.length (qaa b.t)
 p:W.ownsRow base 90 2 hv b.h.length (qaa b.h)
theorem SmI.on {base D:Nat} {W W':World} {b:Bdy} {sv tv hv:Value} {ps:List SV} (I:SmI base D W b sv tv hv ps) (hb:Below W.heap.size W W'):SmI base D W' b sv tv hv ps:=
 ⟨(hb.block D (Array.getElem?_eq_some_iff.1 I.h).1).trans I.h,I.m,qah I.s hb,fun p hp=>qah (I.l p hp) hb,qah I.t hb,qah I.p hb⟩
theorem SmI.app {base D B0:Nat} {W W1 W2:World} {b:Bdy} {sv tv hv v2 lv:Value} {ps:List SV} {s:Smp} (I:SmI base D W b sv tv hv ps) (ho:W.ownsRow base 44 2 lv s.ls.length (qaa s.ls)) (hb:Below W.heap.size W W1) (hbs:base≤W.heap.size)
 (hown:W2.ownsRow base 34 4 v2 (ps.length+1) (qb5 ps++qr8 (s,lv))) (hb2:Below base W1 W2) (hs:W1.heap.size≤W2.heap.size) (hk: ∀row,sv.ownBlock≠some row→row<W1.heap.size→W2.heap[row]?=W1.heap[row]?) (h1:B0≤D) (h2:B0≤base):
 BdR base D {b with s:=b.s++[s]} (W2.setCell ⟨D,0,none⟩ v2)∧Kept D W (W2.setCell ⟨D,0,none⟩ v2)∧Below B0 W (W2.setCell ⟨D,0,none⟩ v2):=by
 have s1:=qah I.s hb;have hD1:W1.heap[D]?=some (.cells #[sv,tv,hv] 66 (0,0)):=(hb.block D (Array.getElem?_eq_some_iff.1 I.h).1).trans I.h
 have hD2:W2.heap[D]?=some (.cells #[sv,tv,hv] 66 (0,0)):=by
  refine(hk D (fun e=>?_) (Array.getElem?_eq_some_iff.1 hD1).1).trans hD1;rcases s1.2 with ⟨rfl,_⟩|⟨g,cap,cur,rfl,_,h3,_⟩
  ·cases e
  ·cases e;rw[hD1] at h3;simp only[Option.some.injEq,Obj.cells.injEq] at h3;exact absurd h3.2.1 (by decide)
 have O3:=qai W2 D 0 v2;refine⟨⟨v2,tv,hv,?_,⟨ps++[(s,lv)],?_,?_,?_⟩,?_,?_⟩,?_,?_⟩
 ·simp[World.setCell,Array.getElem?_modify,hD2]
 ·rw[List.map_append,I.m];rfl
 ·rw[List.length_append,qiE];exact qaL (by simpa [qb5] using hown) O3 hD2 (by decide)
 ·intro p hp;refine qaL ?_ O3 hD2 (by decide);rcases List.mem_append.1 hp with hp|hp
  ·exact qaA (qah (I.l p hp) hb) s1 (by decide) hk
  ·rw[List.mem_singleton] at hp;subst hp;exact qaA (qah ho hb) s1 (by decide) hk
 ·exact qaL (qaA (qah I.t hb) s1 (by decide) hk) O3 hD2 (by decide)
 ·exact qaL (qaA (qah I.p hb) s1 (by decide) hk) O3 hD2 (by decide)
 ·exact((Kept.of hb).trans (qdG s1 (.inl rfl) hb2 hs hk)).trans (Kept.set W2 0 v2)
 ·exact((hb.mono (Nat.le_trans h2 hbs)).trans (hb2.mono h2)).setCell (p:=⟨D,0,none⟩) h1 _
theorem qaj (w:World) (o:Obj):Below w.heap.size w (w.drew.alloc o):=((Below.refl w.heap.size w).drew).alloc (Nat.le_refl _) _
theorem qe9 {W:World} {base e k n m:Nat} {v:Value} {xs:List Value} (h:W.ownsRow base e k v n xs) (hn:m=n):W.ownsRow base e k v m xs:=by subst hn;exact h
theorem qhj {base D E:Nat} {W W1 W2:World} {b:Bdy} {sv tv hv lv:Value} {ps:List SV} {bi t:Int} {st:Bool} (I:SmI base D W b sv tv hv ps) (N:SB E lv bi st t W) (hne:sv.ownBlock≠some E) (hb:Below W.heap.size W W1)
 (hk: ∀row,sv.ownBlock≠some row→row<W1.heap.size→W2.heap[row]?=W1.heap[row]?):
 W2.cell? ⟨D,0,none⟩=some sv∧W2.cell? ⟨E,0,none⟩=some lv∧W2.cell? ⟨E,1,none⟩=some (.int .u64 bi)∧W2.cell? ⟨E,2,none⟩=some (.bool st)∧W2.cell? ⟨E,3,none⟩=some (.int .i64 t)∧W2.frozen? ⟨D,0,none⟩=false:=by
 have s1:=qah I.s hb;have hD1:W1.heap[D]?=some (.cells #[sv,tv,hv] 66 (0,0)):=(hb.block D (Array.getElem?_eq_some_iff.1 I.h).1).trans I.h
 have hD2:W2.heap[D]?=some (.cells #[sv,tv,hv] 66 (0,0)):=by
  refine(hk D (fun e=>?_) (Array.getElem?_eq_some_iff.1 hD1).1).trans hD1;rcases s1.2 with ⟨rfl,_⟩|⟨g,cap,cur,rfl,_,h3,_⟩
  ·cases e
  ·cases e;rw[hD1] at h3;simp only[Option.some.injEq,Obj.cells.injEq] at h3;exact absurd h3.2.1 (by decide)
 have N1:=N.on hb;have N2:SB E lv bi st t W2:=(hk E hne N1.lt).trans N1;exact⟨by rw[Lib.cell_of_heap hD2];rfl,N2.c0,N2.c1,N2.c2,N2.c3,Lib.frozen_of_heap hD2 0⟩
theorem qio (base B0 D:Nat) (b:Bdy) (l:List UInt8) (hl:l.length≤65536) (hk:kindN l=1) (hp:qqm (qdH l)) (w:World) (hG:EGlb w) (hI:BdR base D b w) (h1:B0≤D) (h2:B0≤base) (h3:base≤w.heap.size) (hn:b.s.length≤70000):
 Calls Tryz.prog 89 #[.pointer (some ⟨D,0,none⟩),.string (BS l)] w (qir base B0 D (qck b l) w):=by
 have hR:Hid (qck b l=(if (qay l).1=0∧1000≤b.s.length then 5 else (qay l).1,{b with s:=b.s++[(qay l).2]})):=Lh (by unfold qck;rw[hk];rfl);have ck:=qdI l hl w;rw[hk] at ck;have ck':Hid (Calls Tryz.prog 36 #[.string (BS l)] w fun e w'=>e= .returned (.string ⟨#[115,97,109,112,108,101]⟩)∧Below w.heap.size w w'):=Lh ck;have tk:(⟨#[115,97,109,112,108,101]⟩:ByteArray).toList=[115,97,109,112,108,101]:=by rw[ByteArray.toList_eq]
 have hGh:=Lh hG;have hIh:=Lh hI;have hpp:=Lh hp;obtain⟨R,hRR⟩: ∃R,R=qck b l:=⟨_,rfl⟩;rw[←hRR] at hR⊢;clear ck hG hI hp hRR hk;go_enter Tryz.func89,Tryz.ntmps89;go_wp2_with fail;refine ck'.out.mono ?_;rintro e w1 ⟨rfl,B1⟩;have G1:=Lh (hGh.out.on B1);have I1:=Lh (qdY hIh.out B1);have K1:=Lh (Kept.of (D:=D) B1);have F1:=Lh (B1.mono (Nat.le_trans h2 h3));have h31:base≤w1.heap.size:=Nat.le_trans h3 B1.size;have cr:=qcU l (by omega) (fun _=>hpp.out) w1 G1.out;unfold qmt at cr;obtain⟨re,s,hrs⟩: ∃re s,qay l=(re,s):=⟨_,_,rfl⟩;rw[hrs] at cr hR;simp only at cr hR;replace cr:=Lh cr;clear B1 ck' hrs hGh hIh hpp;go_wp2_with fail;refine cr.out.mono ?_;rintro e w2 ⟨v,rfl,⟨lv,rfl,own2⟩,B2⟩;have I2:=qdY I1.out B2;have K2:=K1.out.trans (Kept.of (D:=D) B2);have F2:=F1.out.trans (B2.mono (Nat.le_trans h2 h31));have h32:base≤w2.heap.size:=Nat.le_trans h31 B2.size
 have hshp: ∃a n c,lv= .slice a n c:=by
  obtain⟨a,c,h⟩:=qae own2;exact⟨a,_,c,h⟩
 obtain⟨la,ln,lc,rfl⟩:=hshp;have Ba:Below w2.heap.size w2 (w2.alloc (.cells #[.slice la ln lc,.int .u64 (s.bits:Int),.bool s.st,.int .i64 s.t] 34)):=(Below.refl _ _).alloc (Nat.le_refl _) _;have N3:SB w2.heap.size (.slice la ln lc) (s.bits:Int) s.st s.t (w2.alloc (.cells #[.slice la ln lc,.int .u64 (s.bits:Int),.bool s.st,.int .i64 s.t] 34)):=World.alloc_heap_new w2 _;have K3:=Lh (K2.trans (Kept.of (D:=D) Ba));have F3:=Lh (F2.trans (Ba.mono (Nat.le_trans h2 h32)));have own3:=Lh (qaQ (qah own2 Ba) h31);obtain⟨sv,tv,hv,p1,⟨ps,p2,p3,p4⟩,p5,p6⟩:=I2
 have hnb:sv.ownBlock≠some w2.heap.size:=fun e=>by
  have:=(p3.lt _ e).2;omega
 obtain⟨q1,q2,q3,q4,q5,q6⟩:=SmI.on ⟨p1,p2,p3,p4,p5,p6⟩ Ba;have hpl:ps.length=b.s.length:=by rw[←q2,List.length_map]
 obtain⟨sa,sc,rfl⟩:=qae q3;have hps:Hid (ps.map Prod.fst=b.s):=Lh q2;have d0:(w2.alloc (.cells #[.slice la ln lc,.int .u64 (s.bits:Int),.bool s.st,.int .i64 s.t] 34)).cell? ⟨D,0,none⟩=some (.slice sa ps.length sc):=by rw[Lib.cell_of_heap q1];rfl
 have fD:=Lib.frozen_of_heap q1 0;have k0:=N3.c0;have k1:=N3.c1;have k2:=N3.c2;have k3:=N3.c3;have V3:Hid (SmI base D (w2.alloc (.cells #[.slice la ln lc,.int .u64 (s.bits:Int),.bool s.st,.int .i64 s.t] 34)) b (.slice sa ps.length sc) tv hv ps):=Lh ⟨q1,q2,q3,q4,q5,q6⟩;have hsz3:base≤(w2.alloc (.cells #[.slice la ln lc,.int .u64 (s.bits:Int),.bool s.st,.int .i64 s.t] 34)).heap.size:=by rw[World.size_alloc];omega
 have hD3:D<(w2.alloc (.cells #[.slice la ln lc,.int .u64 (s.bits:Int),.bool s.st,.int .i64 s.t] 34)).heap.size:=(Array.getElem?_eq_some_iff.1 q1).1;obtain⟨cnt,hcnt⟩: ∃c,c=ps.length:=⟨_,rfl⟩;rw[←hcnt] at hpl d0 V3 hnb;replace hcnt:=Lh hcnt;rw[←hpl] at hR hn;replace hpl:=Lh hpl;clear own2 B2 I1 K1 F1 cr Ba q1 q2 q3 q4 q5 q6 K2 F2 p1 p2 p3 p4 p5 p6 G1 tk;obtain⟨r1,hr1⟩: ∃r1,Hid (r1=(if re=0∧1000≤cnt then 5 else re)):=⟨_,Lh rfl⟩;rw[←hr1.out] at hR;replace N3:=Lh N3
 have hcase:Hid ((re=0∧1000≤cnt∧r1=5)∨(re=0∧ ¬1000≤cnt∧r1=0)∨(re≠0∧r1=re)):=Lh (by
  rw[hr1.out]
  by_cases a:re=0
  ·by_cases c:1000≤cnt
   ·exact .inl ⟨a,c,if_pos ⟨a,c⟩⟩
   ·exact .inr (.inl ⟨a,c,by rw[if_neg (fun h=>c h.2)];exact a⟩)
  ·exact .inr (.inr ⟨a,if_neg (fun h=>a h.1)⟩))
 clear hr1;rcases hcase.out with ⟨rfl,g2,rfl⟩|⟨rfl,g2,rfl⟩|⟨g1,hre⟩
 ·have u1:decide ((1000:Int)≤(cnt:Int))=true:=dT (by omega);have u2:decide (1000≤cnt)=true:=dT g2;clear hcase g2;go_upto_region 6 with (fail)
  generalize w2.alloc (.cells #[.slice la ln lc,.int .u64 (s.bits:Int),.bool s.st,.int .i64 s.t] 34)=w3 at V3 own3 F3 K3 hsz3 hD3 d0 fD k0 k1 k2 k3 N3⊢;obtain⟨E5,hE5⟩: ∃E,E=w2.heap.size:=⟨_,rfl⟩;rw[←hE5] at k0 k1 k2 k3 N3 hnb⊢;clear hE5;go_region_law ((refine qco rfl (.tmp 34) (.tmp 36) 28 rfl base 34 4 (by decide) (.agg #[.slice none 0 0,.int .u64 0,.bool false,.int .i64 0]) 48 (by kernel_rfl) qkY rfl _ cnt (qb5 ps) rfl _ [.slice la ln lc,.int .u64 (s.bits:Int),.bool s.st,.int .i64 s.t] rfl rfl (qe9 (qah V3.out.s (qaj w3 _)) hcnt.out) (qbd _ _ _ 34 (World.alloc_heap_new w3.drew _)) (by intro c hc;simp at hc;rcases hc with rfl|rfl|rfl|rfl<;>rfl) (by decide) (by omega) (by simp;omega) ?_;intro v2 W2 hown' hb2' hs2' hk2';obtain⟨va,vc,rfl⟩:=qae hown';obtain⟨e0,e1,e2,e3,e4,e5⟩:=qhj V3.out N3.out hnb (qaj w3 _) hk2';have fin:=Lh (V3.out.app own3.out (qaj w3 _) hsz3 (by rw[←hcnt.out];exact hown') hb2' hs2' hk2' h1 h2);clear hown' hb2' hs2' hk2'))
  all_goals go_wp2_with fail
  all_goals go_ret
  all_goals exact⟨by rw[hR.out];rfl,by rw[hR.out];exact fin.out.1,K3.out.trans fin.out.2.1,F3.out.trans fin.out.2.2⟩
 ·have u1:decide ((1000:Int)≤(cnt:Int))=false:=dF (by omega);have u2:decide (1000≤cnt)=false:=dF g2;clear hcase g2;go_upto_region 6 with (fail)
  generalize w2.alloc (.cells #[.slice la ln lc,.int .u64 (s.bits:Int),.bool s.st,.int .i64 s.t] 34)=w3 at V3 own3 F3 K3 hsz3 hD3 d0 fD k0 k1 k2 k3 N3⊢;obtain⟨E5,hE5⟩: ∃E,E=w2.heap.size:=⟨_,rfl⟩;rw[←hE5] at k0 k1 k2 k3 N3 hnb⊢;clear hE5;go_region_law ((refine qco rfl (.tmp 34) (.tmp 36) 28 rfl base 34 4 (by decide) (.agg #[.slice none 0 0,.int .u64 0,.bool false,.int .i64 0]) 48 (by kernel_rfl) qkY rfl _ cnt (qb5 ps) rfl _ [.slice la ln lc,.int .u64 (s.bits:Int),.bool s.st,.int .i64 s.t] rfl rfl (qe9 (qah V3.out.s (qaj w3 _)) hcnt.out) (qbd _ _ _ 34 (World.alloc_heap_new w3.drew _)) (by intro c hc;simp at hc;rcases hc with rfl|rfl|rfl|rfl<;>rfl) (by decide) (by omega) (by simp;omega) ?_;intro v2 W2 hown' hb2' hs2' hk2';obtain⟨va,vc,rfl⟩:=qae hown';obtain⟨e0,e1,e2,e3,e4,e5⟩:=qhj V3.out N3.out hnb (qaj w3 _) hk2';have fin:=Lh (V3.out.app own3.out (qaj w3 _) hsz3 (by rw[←hcnt.out];exact hown') hb2' hs2' hk2' h1 h2);clear hown' hb2' hs2' hk2'))
  all_goals go_wp2_with fail
  all_goals go_ret
  all_goals exact⟨by rw[hR.out];rfl,by rw[hR.out];exact fin.out.1,K3.out.trans fin.out.2.1,F3.out.trans fin.out.2.2⟩
 ·subst hre;have u1:(r1==0)=false:=by simpa using g1
  clear hcase g1;go_upto_region 6 with (fail)
  generalize w2.alloc (.cells #[.slice la ln lc,.int .u64 (s.bits:Int),.bool s.st,.int .i64 s.t] 34)=w3 at V3 own3 F3 K3 hsz3 hD3 d0 fD k0 k1 k2 k3 N3⊢;obtain⟨E5,hE5⟩: ∃E,E=w2.heap.size:=⟨_,rfl⟩;rw[←hE5] at k0 k1 k2 k3 N3 hnb⊢;clear hE5;go_region_law ((refine qco rfl (.tmp 34) (.tmp 36) 28 rfl base 34 4 (by decide) (.agg #[.slice none 0 0,.int .u64 0,.bool false,.int .i64 0]) 48 (by kernel_rfl) qkY rfl _ cnt (qb5 ps) rfl _ [.slice la ln lc,.int .u64 (s.bits:Int),.bool s.st,.int .i64 s.t] rfl rfl (qe9 (qah V3.out.s (qaj w3 _)) hcnt.out) (qbd _ _ _ 34 (World.alloc_heap_new w3.drew _)) (by intro c hc;simp at hc;rcases hc with rfl|rfl|rfl|rfl<;>rfl) (by decide) (by omega) (by simp;omega) ?_;intro v2 W2 hown' hb2' hs2' hk2';obtain⟨va,vc,rfl⟩:=qae hown';obtain⟨e0,e1,e2,e3,e4,e5⟩:=qhj V3.out N3.out hnb (qaj w3 _) hk2';have fin:=Lh (V3.out.app own3.out (qaj w3 _) hsz3 (by rw[←hcnt.out];exact hown') hb2' hs2' hk2' h1 h2);clear hown' hb2' hs2' hk2'))
  all_goals go_wp2_with fail
  all_goals go_ret
  all_goals exact⟨by rw[hR.out];rfl,by rw[hR.out];exact fin.out.1,K3.out.trans fin.out.2.1,F3.out.trans fin.out.2.2⟩
end Go.Proofs.YtdeimnnpcfncpaaGreatDoor.X
