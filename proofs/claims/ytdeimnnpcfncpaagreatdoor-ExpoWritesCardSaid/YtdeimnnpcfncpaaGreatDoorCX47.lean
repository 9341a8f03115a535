/- Parts of the proof: SW2 SW3. -/
import Derived.Test.YtdeimnnpcfncpaaGreatDoorCX46
set_option linter.unusedVariables false
set_option linter.unusedSimpArgs false
set_option maxRecDepth 100000
set_option maxHeartbeats 64000000
namespace Go.Proofs.YtdeimnnpcfncpaaGreatDoor.X
open Go Go.RowKit
theorem qe5 (x:List UInt8): ∀L:List (List UInt8),L≠[]→qcw (L++[x])=qcw L++(44::x)
 | [],h=>absurd rfl h
 | [a],_=>by simp[qcw]
 |a::b::u,_=>by
  have ih:=qe5 x (b::u) (by simp);show a++(44::qcw ((b::u)++[x]))=(a++(44::qcw (b::u)))++(44::x);rw[ih];simp
def qqX (L:List (List UInt8)):List UInt8:=if L=[] then [] else 123::qcw L
theorem qjZ (L:List (List UInt8)) (x:List UInt8):qqX (L++[x])=qqX L++((if L=[] then 123 else 44)::x):=by
 unfold qqX;rw[if_neg (by simp)]
 by_cases h:L=[]
 ·subst h;simp[qcw]
 ·rw[if_neg h,if_neg h,qe5 x L h];simp
theorem qlT (w:World) (c:Int):(Instr.buildSlice 78 1 #[(0,.int .u8 c)]).run Tryz.prog w= .ok (.slice (some ⟨w.heap.size,0,none⟩) 1 1) (w.alloc (.cells #[.int .u8 c] 5)):=by
 go_simp
theorem qiH (D k:Nat) (hk:k<4) (w:World):(Instr.fieldAt 34 (.pointer (some ⟨D,0,none⟩)) k).run Tryz.prog w= .ok (.pointer (some ⟨D,k,none⟩)) w:=by
 rcases(show k=0∨k=1∨k=2∨k=3 by omega)with rfl|rfl|rfl|rfl<;>go_simp
def XR (B g n cap D k:Nat) (acc:List UInt8) (num:Value) (txt:List UInt8) (i:Nat) (v:Value) (w:World):Prop:=
 match i with
 |0=>v= .slice (some ⟨g,0,none⟩) n cap∧qaF w B 5 g n cap (acc.map qax)
 |1=> ∃b,v= .slice (some ⟨b,0,none⟩) 1 1∧b<w.heap.size∧w.cell? ⟨b,0,none⟩=some (.int .u8 32)
 |2=> ∃g2 c2,v= .slice (some ⟨g2,0,none⟩) (n+1) c2∧qaF w B 5 g2 (n+1) c2 ((acc++[32]).map qax)
 |3=>v= .pointer (some ⟨D,k,none⟩)
 |4=>v=num
 |5=>v= .string (BS txt)
 |6=> ∃g2 c2,v= .slice (some ⟨g2,0,none⟩) (n+1+txt.length) c2∧qaF w B 5 g2 (n+1+txt.length) c2 ((acc++[32]++txt).map qax)
 |7=> ∃g2 c2,v= .slice (some ⟨g2,0,none⟩) (n+1+txt.length) c2∧qaF w B 5 g2 (n+1+txt.length) c2 ((acc++[32]++txt).map qax)
 |_=>True
theorem XR.on {B g n cap D k:Nat} {acc:List UInt8} {num:Value} {txt:List UInt8} {i:Nat} {v:Value} {w w':World} (h:XR B g n cap D k acc num txt i v w) (hb:Below w.heap.size w w'):XR B g n cap D k acc num txt i v w':=by
 rcases i with _|_|_|_|_|_|_|_|i
 ·exact⟨h.1,h.2.on hb⟩
 ·obtain⟨b,h1,h2,h3⟩:=h;exact⟨b,h1,Nat.lt_of_lt_of_le h2 hb.size,(hb.cell (p:=⟨b,0,none⟩) h2).trans h3⟩
 ·obtain⟨g2,c2,h1,h2⟩:=h;exact⟨g2,c2,h1,h2.on hb⟩
 ·exact h
 ·exact h
 ·exact h
 ·obtain⟨g2,c2,h1,h2⟩:=h;exact⟨g2,c2,h1,h2.on hb⟩
 ·obtain⟨g2,c2,h1,h2⟩:=h;exact⟨g2,c2,h1,h2.on hb⟩
 ·trivial
theorem qip (v:Value) (s:Smp) (hs:SBd s) (h0: -9223372036854775808≤s.t) (h9:s.t≤9223372036854775807) (w:World) (hv:SIn w v s):
 Calls Tryz.prog 85 #[v] w fun e w'=>e= .returned (.tuple #[.string (BS (qcd s).2),.int .i64 (qcd s).1])∧Below w.heap.size w w':=by
 obtain⟨lv,rfl,hr⟩:=hv;have hgl:=qiM s.ls qaj hs.b;obtain⟨a0,c0,rfl⟩:=hr.shape;have NB:SB w.heap.size (.slice a0 s.ls.length c0) (s.bits:Int) s.st s.t (w.alloc (.cells #[.slice a0 s.ls.length c0,.int .u64 (s.bits:Int),.bool s.st,.int .i64 s.t] 34)):=World.alloc_heap_new w _;have Ba:Below w.heap.size w (w.alloc (.cells #[.slice a0 s.ls.length c0,.int .u64 (s.bits:Int),.bool s.st,.int .i64 s.t] 34)):=(Below.refl _ _).alloc (Nat.le_refl _) _;have LR:=Lh (hr.on Ba);have c1:=Lh (qfd _ s hs _ ⟨_,rfl,LR.out⟩);have k0:=NB.c0;have k1:=NB.c1;have k2:=NB.c2;have k3:=NB.c3;replace NB:=Lh NB;replace Ba:=Lh Ba;have hsh:=Lh hs;clear hr hs;have hF:Hid (qcd s=if qaV s=true then (if 65536<(qeN s).length then (3,[]) else (0,qeN s)) else (239,[])):=Lh rfl;obtain⟨R,hR⟩: ∃R,R=qcd s:=⟨_,rfl⟩;rw[←hR] at hF⊢;clear hR
 cases hrt:qaV s with
 |false=>
  rw[hrt,if_neg (by decide)] at hF;rw[hrt] at c1;obtain⟨ls,bits,st,t⟩:=s;simp only at c1 k0 k1 k2 k3 NB Ba⊢;clear hrt;go_enter Tryz.func85,Tryz.ntmps85;go_wp2_with fail;refine c1.out.mono ?_;rintro e w1 ⟨rfl,B1⟩;have B1h:=Lh (Ba.out.trans (B1.mono Ba.out.size));clear B1 c1;go_wp2_with fail;go_ret2;exact⟨by rw[hF.out];rfl,B1h.out⟩
 |true=>
  rw[hrt,if_pos rfl] at hF;obtain⟨p1,p2,p3,p4⟩:=qdu hrt;rw[hrt] at c1;obtain⟨q1,q2,q3⟩:=(qgh _).1 p1;obtain⟨n1,n2,n3⟩:=qcO p2;obtain⟨_,e4⟩:=qiE s.bits hsh.out.bits;have hbt:=hsh.out.bits;have q2h:=Lh q2;clear q2 q3 p3 p4 n1 n2 hrt p2 p1 hsh;obtain⟨ls,bits,st,t⟩:=s;simp only at c1 k0 k1 k2 k3 NB Ba LR hF hgl h0 h9 q1 n3 e4 hbt q2h⊢;have hLT:Hid (qeN ⟨ls,bits,st,t⟩=_):=Lh (qiy ls bits st t);rw[hLT.out] at hF;obtain⟨n,hn⟩: ∃n,n=ls.length:=⟨_,rfl⟩;have hnh:=Lh hn;rw[←hn] at c1 k0 NB Ba LR q1⊢;clear hn hLT;go_enter Tryz.func85,Tryz.ntmps85;go_wp2_with fail;refine c1.out.mono ?_;rintro e w1 ⟨rfl,B1⟩;have N1:=NB.out.on B1;have L1:=Lh (LR.out.on B1);have B1h:=Lh (Ba.out.trans (B1.mono Ba.out.size));have k0:=N1.c0;replace N1:=Lh N1;have hD0:w.heap.size<w1.heap.size:=N1.out.lt;clear B1 c1 NB LR Ba k1 k2 k3;have cg:=Lh (qkx _ ls qaj (by rw[←hnh.out];omega) w1 L1.out);obtain⟨nm,hnm⟩: ∃nm,qa0 ls qaj=nm:=⟨_,rfl⟩;rw[hnm] at cg hF n3 hgl;clear hnm;go_wp2_with fail;refine cg.out.mono ?_;rintro e w2 ⟨rfl,rfl⟩;have hBh:=Lh (Below.refl w1.heap.size w1);have hcv:=Lib.run_convert_string_bytes (P:=Tryz.prog) w1 9 78 5 (BS nm) Tryz.underlying9 Tryz.underlying78 Tryz.underlying5;have hT0:=qgW w1 w1.heap.size (BS nm) nm (by simp[BS]) (Nat.le_refl _) (by omega);have hBb:=Lib.bytesWorld_below w1 5 (BS nm);rw[qac] at hcv hT0;obtain⟨W2,hW2⟩: ∃W2,W2=Lib.bytesWorld w1 5 (BS nm):=⟨_,rfl⟩;obtain⟨cp0,hcp0⟩: ∃cp0,cp0=grownCap w1 nm.length 0 5:=⟨_,rfl⟩;obtain⟨g0,hg0⟩: ∃g0,g0=w1.heap.size:=⟨_,rfl⟩;rw[←hW2,←hcp0] at hcv hT0;rw[←hW2] at hBb;have hT0':qaF W2 w1.heap.size 5 g0 nm.length cp0 (nm.map qax):=by rw[hg0];exact hT0
  rw[←hg0] at hcv;replace hT0':=Lh hT0';replace hBb:=Lh hBb;clear hT0 hW2 hcp0 hg0 hBh;go_wp2_with fail;go_loopg [4,5,6] (n+1) (fun gk s4 s5 s6 wx=> ∃(i g cap:Nat) (acc:List UInt8) (fb:Bool),i≤n∧n - i<gk∧s6= .int .i64 (i:Int)∧s5= .bool fb∧s4= .slice (some ⟨g,0,none⟩) acc.length cap∧acc.length≤200+2300*i∧Hid (fb=decide (qds (ls.take i)=[]))∧Hid (acc=nm++qqX (qds (ls.take i)))∧Hid (qaF wx w1.heap.size 5 g acc.length cap (acc.map qax))∧Hid (Below w1.heap.size w1 wx))
  case atStart=>exact⟨0,g0,cp0,nm,true,by omega,by omega,rfl,rfl,rfl,by omega,Lh (by simp[qds]),Lh (by simp[qds,qqX]),hT0',hBb⟩
  case round=>
   clear hT0' hBb;obtain⟨i,g,cap,acc,fb,hi,hgk,rfl,rfl,rfl,hal,hfb,hacc,hT,B⟩:=hrel;have N2:=N1.out.on B.out;have k0:=N2.c0
   by_cases hlt:i<n
   ·have u2:decide ((i:Int)<(n:Int))=true:=dT (by omega);have u3:decide (i<n)=true:=dT hlt;have hil:i<ls.length:=by rw[←hnh.out];exact hlt
    obtain⟨b,off,rfl,hbl,x1,x2⟩:=(L1.out.on B.out).at' i hil;obtain⟨x,hx⟩: ∃x,Hid (x=ls.getD i lb0):=⟨_,Lh rfl⟩;rw[←hx.out] at x1 x2;have hxo:qck x=0:=(q2h.out x (by rw[hx.out,List.getD_eq_getElem?_getD,List.getElem?_eq_getElem hil];exact List.getElem_mem _)).1;obtain⟨xn,xv⟩:=qlF hxo;have hxl:=qg9 x xn xv;have hxn:=(qcO xn).2.2;have hxv:x.2.length≤1024:=(by unfold qbi at xv;rw[Bool.and_eq_true,decide_eq_true_eq] at xv;exact xv.1);have hql:=L.quL_len x.2;have hot:=qh3 ls i hil;rw[←hx.out] at hot;replace hot:=Lh hot;have tn:=qab x.1;clear hxo xn xv N2
    cases hsn:(x.1==qaj)with
    |true=>
     rw[hsn,if_pos rfl,List.append_nil] at hot;have hsn':(x.1==([95,95,110,97,109,101,95,95]:List UInt8))=true:=hsn;have hsn2:(x.1 !=([95,95,110,97,109,101,95,95]:List UInt8))=false:=by rw[bne,hsn'];rfl
     clear hsn;go_wp2_with fail;go_roundg (gk - 1)
     case measure=>omega
     case rel=>exact⟨i+1,g,cap,acc,fb,by omega,by omega,by go_num,rfl,rfl,by omega,by rw[hot.out];exact hfb,by rw[hot.out];exact hacc,hT,B⟩
    |false=>
     rw[hsn,if_neg (by decide)] at hot;have hsn':(x.1==([95,95,110,97,109,101,95,95]:List UInt8))=false:=hsn;have hsn2:(x.1 !=([95,95,110,97,109,101,95,95]:List UInt8))=true:=by rw[bne,hsn'];rfl
     have cq:=fun W=>L.rwrite_any (BS x.2) (by rw[qac];omega) W
     rw[show(BS x.2).data.toList=x.2 by simp[BS]] at cq;obtain⟨Q,hQ⟩: ∃Q,Q=34::L.quL x.2++[34]:=⟨_,rfl⟩;have hQl:Q.length≤2100:=by rw[hQ];simp only[List.length_append,List.length_cons,List.length_nil];omega
     rw[←hQ] at cq;have cq':Hid (∀W,Calls Tryz.prog 146 #[.string (BS x.2),.int .i64 2] W fun r w'=>r= .returned (.tuple #[.string (BS Q),.int .i64 0])∧Below W.heap.size W w'):=Lh cq;have hlb:Hid (lbT x=x.1++([61]++Q)):=Lh (by rw[hQ];unfold lbT;simp);have zQ:=qac Q;have zx:=qac x.1
     have hfb2:Hid (∀sp:UInt8,sp=(if fb=true then 123 else 44)→(acc++[sp]++x.1++[61]++Q=nm++qqX (qds (ls.take (i+1))))∧(false=decide (qds (ls.take (i+1))=[]))):=Lh (fun sp hsp=>by
      rw[hot.out,qjZ,hacc.out,hlb.out];have h1:=hfb.out;refine⟨?_,by simp⟩
      by_cases h:qds (ls.take i)=[]
      ·rw[if_pos h];rw[h] at h1;rw[hsp,if_pos (by rw[h1];rfl)];simp
      ·rw[if_neg h];rw[hsp,if_neg (by rw[h1,dF h];decide)]
       simp)
     clear hsn hQ cq hot hfb hacc hxl;have hsz:=B.out.size
     cases fb with
     |true=>
      go_wp2_with (first
       |(at_builtin;refine qcj rfl (.tmp 31) (.tmp 32) 78 rfl (u:= .int .u8 123) w1.heap.size (.int .u8 0) Tryz.underlying78 info5 rfl g acc.length cap _ rfl rfl hT.out rfl (by omega) hsz ?_;rintro g3 cap3 w3 hT3 hb3 _;have B3:=Lh (B.out.trans hb3);have k0:=(N1.out.on B3.out).c0;obtain⟨_,_,e9,_,x1,x2⟩:=(L1.out.on B3.out).at' i hil;cases e9;rw[←hx.out] at x1 x2;replace hT3:=Lh hT3;clear hb3))
      refine(cq'.out _).mono ?_;rintro e w4 ⟨rfl,hb4⟩;have B4:=Lh (B3.out.trans (hb4.mono B3.out.size));have hT4:Hid (qaF w4 w1.heap.size 5 g3 (acc.length+1) cap3 ((acc++[123]).map qax)):=Lh (by have:=hT3.out.on hb4;rw[List.map_append];exact this);have k0:=(N1.out.on B4.out).c0;obtain⟨_,_,e9,_,x1,x2⟩:=(L1.out.on B4.out).at' i hil;cases e9;rw[←hx.out] at x1 x2;have hsz4:=B4.out.size;clear hb4 hT3 B3 cq'
      go_wp2_with (first
       |(at_builtin;refine qdG rfl (.tmp 47) (.tmp 53) 78 9 rfl w1.heap.size Tryz.underlying78 Tryz.underlying9 info5 g3 (acc.length+1) cap3 (acc++[123]) rfl (BS x.1) rfl hT4.out (by omega) hsz4 ?_;rintro g5 cap5 w5 hT5 hb5;have B5:=Lh (B4.out.trans hb5);have hsz5:=B5.out.size;replace hT5:=Lh hT5;rw[zx] at hT5⊢;clear hb5 k0 x1 x2)
       |(at_builtin;refine qcj rfl (.tmp 54) (.tmp 55) 78 rfl (u:= .int .u8 61) w1.heap.size (.int .u8 0) Tryz.underlying78 info5 rfl g5 (acc.length+1+x.1.length) cap5 _ rfl rfl hT5.out rfl (by omega) hsz5 ?_;rintro g6 cap6 w6 hT6 hb6 _;have B6:=Lh (B5.out.trans hb6);have hsz6:=B6.out.size;replace hT6:Hid (qaF w6 w1.heap.size 5 g6 (acc.length+1+x.1.length+1) cap6 ((acc++[123]++x.1++[61]).map qax)):=Lh (by rw[show(BS x.1).data.toList=x.1 by simp[BS]] at hT6;rw[List.map_append];exact hT6);clear hb6)
       |(at_builtin;refine qdG rfl (.tmp 56) (.tmp 57) 78 9 rfl w1.heap.size Tryz.underlying78 Tryz.underlying9 info5 g6 (acc.length+1+x.1.length+1) cap6 (acc++[123]++x.1++[61]) rfl (BS Q) rfl hT6.out (by omega) hsz6 ?_;rintro g7 cap7 w7 hT7 hb7;have B7:=Lh (B6.out.trans hb7);replace hT7:Hid (qaF w7 w1.heap.size 5 g7 (acc.length+1+x.1.length+1+Q.length) cap7 ((acc++[123]++x.1++[61]++Q).map qax)):=Lh (by rw[show(BS Q).data.toList=Q by simp[BS],zQ] at hT7;exact hT7);rw[zQ];clear hb7))
      obtain⟨e1,e2⟩:=hfb2.out 123 rfl;go_roundg (gk - 1)
      case measure=>omega
      case rel=>exact⟨i+1,g7,cap7,acc++[123]++x.1++[61]++Q,false,by omega,by omega,by go_num,rfl,by simp only[List.length_append,List.length_cons,List.length_nil],by simp only[List.length_append,List.length_cons,List.length_nil];omega,Lh e2,Lh e1,by simp only[List.length_append,List.length_cons,List.length_nil] at hT7⊢;exact hT7,B7⟩
     |false=>
      go_wp2_with (first
       |(at_builtin;refine qcj rfl (.tmp 34) (.tmp 35) 78 rfl (u:= .int .u8 44) w1.heap.size (.int .u8 0) Tryz.underlying78 info5 rfl g acc.length cap _ rfl rfl hT.out rfl (by omega) hsz ?_;rintro g3 cap3 w3 hT3 hb3 _;have B3:=Lh (B.out.trans hb3);have k0:=(N1.out.on B3.out).c0;obtain⟨_,_,e9,_,x1,x2⟩:=(L1.out.on B3.out).at' i hil;cases e9;rw[←hx.out] at x1 x2;replace hT3:=Lh hT3;clear hb3))
      refine(cq'.out _).mono ?_;rintro e w4 ⟨rfl,hb4⟩;have B4:=Lh (B3.out.trans (hb4.mono B3.out.size));have hT4:Hid (qaF w4 w1.heap.size 5 g3 (acc.length+1) cap3 ((acc++[44]).map qax)):=Lh (by have:=hT3.out.on hb4;rw[List.map_append];exact this);have k0:=(N1.out.on B4.out).c0;obtain⟨_,_,e9,_,x1,x2⟩:=(L1.out.on B4.out).at' i hil;cases e9;rw[←hx.out] at x1 x2;have hsz4:=B4.out.size;clear hb4 hT3 B3 cq'
      go_wp2_with (first
       |(at_builtin;refine qdG rfl (.tmp 47) (.tmp 53) 78 9 rfl w1.heap.size Tryz.underlying78 Tryz.underlying9 info5 g3 (acc.length+1) cap3 (acc++[44]) rfl (BS x.1) rfl hT4.out (by omega) hsz4 ?_;rintro g5 cap5 w5 hT5 hb5;have B5:=Lh (B4.out.trans hb5);have hsz5:=B5.out.size;replace hT5:=Lh hT5;rw[zx] at hT5⊢;clear hb5 k0 x1 x2)
       |(at_builtin;refine qcj rfl (.tmp 54) (.tmp 55) 78 rfl (u:= .int .u8 61) w1.heap.size (.int .u8 0) Tryz.underlying78 info5 rfl g5 (acc.length+1+x.1.length) cap5 _ rfl rfl hT5.out rfl (by omega) hsz5 ?_;rintro g6 cap6 w6 hT6 hb6 _;have B6:=Lh (B5.out.trans hb6);have hsz6:=B6.out.size;replace hT6:Hid (qaF w6 w1.heap.size 5 g6 (acc.length+1+x.1.length+1) cap6 ((acc++[44]++x.1++[61]).map qax)):=Lh (by rw[show(BS x.1).data.toList=x.1 by simp[BS]] at hT6;rw[List.map_append];exact hT6);clear hb6)
       |(at_builtin;refine qdG rfl (.tmp 56) (.tmp 57) 78 9 rfl w1.heap.size Tryz.underlying78 Tryz.underlying9 info5 g6 (acc.length+1+x.1.length+1) cap6 (acc++[44]++x.1++[61]) rfl (BS Q) rfl hT6.out (by omega) hsz6 ?_;rintro g7 cap7 w7 hT7 hb7;have B7:=Lh (B6.out.trans hb7);replace hT7:Hid (qaF w7 w1.heap.size 5 g7 (acc.length+1+x.1.length+1+Q.length) cap7 ((acc++[44]++x.1++[61]++Q).map qax)):=Lh (by rw[show(BS Q).data.toList=Q by simp[BS],zQ] at hT7;exact hT7);rw[zQ];clear hb7))
      obtain⟨e1,e2⟩:=hfb2.out 44 rfl;go_roundg (gk - 1)
      case measure=>omega
      case rel=>exact⟨i+1,g7,cap7,acc++[44]++x.1++[61]++Q,false,by omega,by omega,by go_num,rfl,by simp only[List.length_append,List.length_cons,List.length_nil],by simp only[List.length_append,List.length_cons,List.length_nil];omega,Lh e2,Lh e1,by simp only[List.length_append,List.length_cons,List.length_nil] at hT7⊢;exact hT7,B7⟩
   ·obtain rfl:i=n:=by omega
    have u2:decide ((i:Int)<(i:Int))=false:=dF (by omega);have htk:ls.take i=ls:=List.take_of_length_le (by rw[←hnh.out];exact Nat.le_refl _);rw[htk] at hfb hacc;have hal2:acc.length≤200000:=by omega
    have cE:=Lh (fun W=>qjs bits hbt W);have cI:=Lh (fun W=>L.rdec_any t h0 h9 (BS (Lib.itoa t)) rfl W);have hil:=L.itoa_len t h0 h9;obtain⟨ex,hex⟩: ∃ex,ex=qao bits:=⟨_,rfl⟩;obtain⟨it,hit⟩: ∃it,it=Lib.itoa t:=⟨_,rfl⟩;have cE':Hid (∀W,Calls Tryz.prog 147 #[.int .u64 (bits:Int)] W fun e w'=>e= .returned (.string (BS ex))∧Below W.heap.size W w'):=Lh (fun W=>by rw[hex];exact cE.out W);have cI':Hid (∀W,Calls Tryz.prog 148 #[.int .i64 t] W fun e w'=>e= .returned (.string (BS it))∧Below W.heap.size W w'):=Lh (fun W=>(by rw[hit];exact cI.out W:Calls Tryz.prog 148 #[.int .i64 t] W fun e w'=>e= .returned (.string (BS it))∧W=w').mono (fun e w' ⟨h1,h2⟩=>⟨h1,h2▸Below.refl _ _⟩));rw[←hit] at hil hF;rw[←hex] at e4 hF;obtain⟨oth,hoth⟩: ∃oth,oth=qds ls:=⟨_,rfl⟩;rw[←hoth] at hfb hacc hF;obtain⟨mid,hmid⟩: ∃mid,mid=(if oth=[] then [] else 123::(qcw oth++[125])):=⟨_,rfl⟩;rw[←hmid] at hF;have hB0:=Lh (Nat.le_of_lt hD0);have h147: ∀args W,(callFunc 147 args).run Tryz.prog W= .ok (.enter 147 args) W:=enters_of Tryz.func147 (by kernel_rfl) rfl;have h148: ∀args W,(callFunc 148 args).run Tryz.prog W= .ok (.enter 148 args) W:=enters_of Tryz.func148 (by kernel_rfl) rfl;replace h147:=Lh h147;replace h148:=Lh h148;clear hoth hex hit cE cI q2h hgl htk hlt N2;go_upto_if 60 with (fail)
    go_cut [4] from 9 (fun s4 wx=> ∃(g cap:Nat) (acc:List UInt8),s4= .slice (some ⟨g,0,none⟩) acc.length cap∧acc.length≤200001∧Hid (acc=nm++mid)∧Hid (qaF wx w1.heap.size 5 g acc.length cap (acc.map qax))∧Hid (Below w1.heap.size w1 wx))
    case first=>
     have hsz:=B.out.size
     cases fb with
     |true=>
      have ho:oth=[]:=by have:=hfb.out;simpa using this.symm
      go_wp2_with fail;go_meet
      case rel=>exact⟨g,cap,acc,rfl,by omega,Lh (by rw[hacc.out,hmid,ho];rfl),hT,B⟩
     |false=>
      have ho:oth≠[]:=by have:=hfb.out;simpa using this.symm
      go_wp2_with (at_builtin;go_must (refine qcj rfl (.tmp 61) (.tmp 62) 78 rfl (u:= .int .u8 125) w1.heap.size (.int .u8 0) Tryz.underlying78 info5 rfl g acc.length cap _ rfl rfl hT.out rfl (by omega) hsz ?_);rintro g3 cap3 w3 hT3 hb3 _;have B3:=Lh (B.out.trans hb3);replace hT3:=Lh hT3;clear hb3);go_meet
      case rel=>exact⟨g3,cap3,acc++[125],by simp only[List.length_append,List.length_cons,List.length_nil],by simp only[List.length_append,List.length_cons,List.length_nil];omega,Lh (by rw[hacc.out,hmid,if_neg ho];unfold qqX;rw[if_neg ho];simp),by rw[List.map_append,List.length_append];exact hT3,B3⟩
    case rest=>
     clear hT B hfb hacc hal hal2 hmid k0;obtain⟨g,cap,acc,rfl,hal,hacc,hT,B⟩:=hcut;have hszB:=B.out.size;have k1:=(N1.out.on B.out).c1;have hDc:w.heap.size<wc.heap.size:=by omega
     go_upto_region 17 with (fail)
     refine qcb w1.heap.size hszB (fun j=>([[],[],[0,1],[],[3],[4],[2,5],[6]]:List (List Nat)).getD j []) [7] [0,1,2,6,7] [2,6]
      (XR w1.heap.size g acc.length cap w.heap.size 1 acc (.int .u64 (bits:Int)) ex)
      (by kernel_rfl) (by kernel_rfl) (by decide+kernel) (by kernel_rfl) (by decide+kernel) (fun j hj=>by rw[List.getD_eq_getElem?_getD,List.getElem?_eq_none (show 8≤j from hj)];rfl) (by decide+kernel) (fun i v w w' h hb=>h.on hb) ?_ ?_ ?_
     ·intro i v w w' hf _ h _;rcases i with _|_|_|_|_|_|_|_|i
      all_goals first|exact h|(exfalso;revert hf;decide)|trivial
     ·intro i;rcases i with _|_|_|_|_|_|_|_|i
      all_goals intro oo hoo a wa hba hout hsoft hpre
      all_goals cases hoo
      ·exact qap rfl (qae rfl) (.inl rfl) ⟨_,rfl,Below.refl _ _,(hout 4 (by kernel_rfl)).trans rfl,hT.out.on (hsoft (by kernel_rfl))⟩
      ·exact qej rfl (qae rfl) rfl rfl (qlT wa 32) ⟨_,rfl,(Below.refl _ _).alloc (Nat.le_refl _) _,_,rfl,by simp,by rw[Lib.cell_of_heap (World.alloc_heap_new _ _)];rfl⟩
      ·obtain⟨e1,e2⟩:a.tmps.getD 64 undef= .slice (some ⟨g,0,none⟩) acc.length cap∧qaF wa w1.heap.size 5 g acc.length cap (List.map qax (acc)):=hpre 0 (by simp) _ rfl;obtain⟨b,e3,e4,e5⟩: ∃b,a.tmps.getD 65 undef= .slice (some ⟨b,0,none⟩) 1 1∧b<wa.heap.size∧wa.cell? ⟨b,0,none⟩=some (.int .u8 32):=hpre 1 (by simp) _ rfl;refine qc8 (z:= .int .u8 0) rfl rfl rfl Tryz.underlying78 info5 rfl _ e1 e2 e3 e5 rfl (by omega) (Nat.le_trans hszB hba.size) ?_;intro g' c' w' h1 h2;exact⟨_,rfl,h2,g',c',rfl,by rw[List.map_append];exact h1⟩
      ·exact qeR rfl (qae rfl) rfl ((hout 1 (by kernel_rfl)).trans rfl) (qiH _ 1 (by decide) wa) ⟨_,rfl,Below.refl _ _,rfl⟩
      ·have e1:a.tmps.getD 67 undef= .pointer (some ⟨w.heap.size,1,none⟩):=hpre 3 (by simp) _ rfl;have kk:wa.cell? ⟨w.heap.size,1,none⟩=some (.int .u64 (bits:Int)):=(hba.cell (p:=⟨w.heap.size,1,none⟩) hD0).trans k1;exact qbu rfl (qae rfl) rfl e1 (by simp[go_sem,kk]) ⟨_,rfl,Below.refl _ _,rfl⟩
      ·have e1:a.tmps.getD 68 undef= .int .u64 (bits:Int):=hpre 4 (by simp) _ rfl;refine qa3 rfl (qae rfl) _ (qhJ e1) (h147.out _ _) ((cE'.out wa).mono ?_);rintro e w' ⟨rfl,hb'⟩;exact⟨_,rfl,_,rfl,hb',rfl⟩
      ·obtain⟨g2,c2,e1,e2⟩: ∃g2 c2,a.tmps.getD 66 undef= .slice (some ⟨g2,0,none⟩) (acc.length+1) c2∧qaF wa w1.heap.size 5 g2 (acc.length+1) c2 (List.map qax (acc++[32])):=hpre 2 (by simp) _ rfl;have e3:a.tmps.getD 69 undef= .string (BS ex):=hpre 5 (by simp) _ rfl;refine qcZ rfl rfl rfl Tryz.underlying78 Tryz.underlying9 info5 _ e1 e2 (BS ex) e3 (by rw[qac];omega) (Nat.le_trans hszB hba.size) ?_;intro g' c' w' h1 h2;rw[qac] at h1⊢;exact⟨_,rfl,h2,g',c',rfl,by rw[show(BS ex).data.toList=ex by simp[BS]] at h1;exact h1⟩
      ·obtain⟨g2,c2,e1,e2⟩: ∃g2 c2,a.tmps.getD 70 undef= .slice (some ⟨g2,0,none⟩) (acc.length+1+ex.length) c2∧qaF wa w1.heap.size 5 g2 (acc.length+1+ex.length) c2 (List.map qax (acc++[32]++ex)):=hpre 6 (by simp) _ rfl;exact qap rfl (qae rfl) (.inr rfl) ⟨_,rfl,Below.refl _ _,g2,c2,e1,e2⟩
     ·intro a wa hba hF7 ha;obtain⟨g2,c2,f4,hT2⟩: ∃g2 c2,a.tmps.getD 4 undef= .slice (some ⟨g2,0,none⟩) (acc.length+1+ex.length) c2∧qaF wa w1.heap.size 5 g2 (acc.length+1+ex.length) c2 (List.map qax (acc++[32]++ex)):=hF7 7 (by simp) _ rfl;clear hF7;simp only[List.foldl,qaq] at ha;rw[f4] at ha;clear f4;generalize a.tmps.getD 64 undef=z64 at ha;generalize a.tmps.getD 65 undef=z65 at ha;generalize a.tmps.getD 66 undef=z66 at ha;generalize a.tmps.getD 67 undef=z67 at ha;generalize a.tmps.getD 68 undef=z68 at ha;generalize a.tmps.getD 69 undef=z69 at ha;generalize a.tmps.getD 70 undef=z70 at ha;subst ha;simp only[Act.put,List.setIfInBounds_toArray,List.set_cons_succ,List.set_cons_zero];have B2:=Lh (B.out.trans hba);have hac2:Hid ((acc++[32]++ex)=nm++(mid++(32::ex))):=Lh (by rw[hacc.out];simp);have hl2:(acc++[32]++ex).length=acc.length+1+ex.length:=by simp only[List.length_append,List.length_cons,List.length_nil]
      obtain⟨ac2,hac⟩: ∃ac2,acc++[32]++ex=ac2:=⟨_,rfl⟩;rw[hac] at hT2 hac2 hl2;rw[←hl2] at hT2⊢;replace hT2:=Lh hT2;have k2:=(N1.out.on B2.out).c2;have k3:=(N1.out.on B2.out).c3;have hszB:=B2.out.size;have hal2:ac2.length≤202000:=by omega
      clear hba hT B hacc hac k1 cE' h147;go_upto_if 72 with (fail)
      go_cut [4] from 9 (fun s4 wx=> ∃(g cap:Nat) (acc:List UInt8),s4= .slice (some ⟨g,0,none⟩) acc.length cap∧acc.length≤204000∧Hid (acc=nm++(mid++(32::(ex++(if st then 32::it else [])))))∧Hid (qaF wx w1.heap.size 5 g acc.length cap (acc.map qax))∧Hid (Below w1.heap.size w1 wx))
      case first=>
       cases st with
       |false=>
        go_wp2_with fail;go_meet
        case rel=>exact⟨g2,c2,ac2,rfl,by omega,Lh (by rw[hac2.out];simp),hT2,B2⟩
       |true=>
        obtain⟨g3,cap3,hgc⟩: ∃g3 cap3,g2=g3∧c2=cap3:=⟨_,_,rfl,rfl⟩;obtain⟨rfl,rfl⟩:=hgc;have hT3:=hT2;go_upto_region 19 with (fail)
        refine qcb w1.heap.size hszB (fun j=>([[],[],[0,1],[],[3],[4],[2,5],[6]]:List (List Nat)).getD j []) [7] [0,1,2,6,7] [2,6]
         (XR w1.heap.size g2 ac2.length c2 w.heap.size 3 ac2 (.int .i64 t) it)
         (by kernel_rfl) (by kernel_rfl) (by decide+kernel) (by kernel_rfl) (by decide+kernel) (fun j hj=>by rw[List.getD_eq_getElem?_getD,List.getElem?_eq_none (show 8≤j from hj)];rfl) (by decide+kernel) (fun i v w w' h hb=>h.on hb) ?_ ?_ ?_
        ·intro i v w w' hf _ h _;rcases i with _|_|_|_|_|_|_|_|i
         all_goals first|exact h|(exfalso;revert hf;decide)|trivial
        ·intro i;rcases i with _|_|_|_|_|_|_|_|i
         all_goals intro oo hoo a wa hba hout hsoft hpre
         all_goals cases hoo
         ·exact qap rfl (qae rfl) (.inl rfl) ⟨_,rfl,Below.refl _ _,(hout 4 (by kernel_rfl)).trans rfl,hT3.out.on (hsoft (by kernel_rfl))⟩
         ·exact qej rfl (qae rfl) rfl rfl (qlT wa 32) ⟨_,rfl,(Below.refl _ _).alloc (Nat.le_refl _) _,_,rfl,by simp,by rw[Lib.cell_of_heap (World.alloc_heap_new _ _)];rfl⟩
         ·obtain⟨e1,e2⟩:a.tmps.getD 73 undef= .slice (some ⟨g2,0,none⟩) ac2.length c2∧qaF wa w1.heap.size 5 g2 ac2.length c2 (List.map qax (ac2)):=hpre 0 (by simp) _ rfl;obtain⟨b,e3,e4,e5⟩: ∃b,a.tmps.getD 74 undef= .slice (some ⟨b,0,none⟩) 1 1∧b<wa.heap.size∧wa.cell? ⟨b,0,none⟩=some (.int .u8 32):=hpre 1 (by simp) _ rfl;refine qc8 (z:= .int .u8 0) rfl rfl rfl Tryz.underlying78 info5 rfl _ e1 e2 e3 e5 rfl (by omega) (Nat.le_trans hszB hba.size) ?_;intro g' c' w' h1 h2;exact⟨_,rfl,h2,g',c',rfl,by rw[List.map_append];exact h1⟩
         ·exact qeR rfl (qae rfl) rfl ((hout 1 (by kernel_rfl)).trans rfl) (qiH _ 3 (by decide) wa) ⟨_,rfl,Below.refl _ _,rfl⟩
         ·have e1:a.tmps.getD 76 undef= .pointer (some ⟨w.heap.size,3,none⟩):=hpre 3 (by simp) _ rfl;have kk:wa.cell? ⟨w.heap.size,3,none⟩=some (.int .i64 t):=(hba.cell (p:=⟨w.heap.size,3,none⟩) hD0).trans k3;exact qbu rfl (qae rfl) rfl e1 (by simp[go_sem,kk]) ⟨_,rfl,Below.refl _ _,rfl⟩
         ·have e1:a.tmps.getD 77 undef= .int .i64 t:=hpre 4 (by simp) _ rfl;refine qa3 rfl (qae rfl) _ (qhJ e1) (h148.out _ _) ((cI'.out wa).mono ?_);rintro e w' ⟨rfl,hb'⟩;exact⟨_,rfl,_,rfl,hb',rfl⟩
         ·obtain⟨g4,c4,e1,e2⟩: ∃g4 c4,a.tmps.getD 75 undef= .slice (some ⟨g4,0,none⟩) (ac2.length+1) c4∧qaF wa w1.heap.size 5 g4 (ac2.length+1) c4 (List.map qax (ac2++[32])):=hpre 2 (by simp) _ rfl;have e3:a.tmps.getD 78 undef= .string (BS it):=hpre 5 (by simp) _ rfl;refine qcZ rfl rfl rfl Tryz.underlying78 Tryz.underlying9 info5 _ e1 e2 (BS it) e3 (by rw[qac];omega) (Nat.le_trans hszB hba.size) ?_;intro g' c' w' h1 h2;rw[qac] at h1⊢;exact⟨_,rfl,h2,g',c',rfl,by rw[show(BS it).data.toList=it by simp[BS]] at h1;exact h1⟩
         ·obtain⟨g4,c4,e1,e2⟩: ∃g4 c4,a.tmps.getD 79 undef= .slice (some ⟨g4,0,none⟩) (ac2.length+1+it.length) c4∧qaF wa w1.heap.size 5 g4 (ac2.length+1+it.length) c4 (List.map qax (ac2++[32]++it)):=hpre 6 (by simp) _ rfl;exact qap rfl (qae rfl) (.inr rfl) ⟨_,rfl,Below.refl _ _,g4,c4,e1,e2⟩
        ·intro a wa hba hF8 ha;obtain⟨g4,c4,f4,hT4⟩: ∃g4 c4,a.tmps.getD 4 undef= .slice (some ⟨g4,0,none⟩) (ac2.length+1+it.length) c4∧qaF wa w1.heap.size 5 g4 (ac2.length+1+it.length) c4 (List.map qax (ac2++[32]++it)):=hF8 7 (by simp) _ rfl;clear hF8;simp only[List.foldl,qaq] at ha;rw[f4] at ha;clear f4;generalize a.tmps.getD 73 undef=z73 at ha;generalize a.tmps.getD 74 undef=z74 at ha;generalize a.tmps.getD 75 undef=z75 at ha;generalize a.tmps.getD 76 undef=z76 at ha;generalize a.tmps.getD 77 undef=z77 at ha;generalize a.tmps.getD 78 undef=z78 at ha;generalize a.tmps.getD 79 undef=z79 at ha;subst ha;simp only[Act.put,List.setIfInBounds_toArray,List.set_cons_succ,List.set_cons_zero];have B4:=Lh (B2.out.trans hba);replace hT4:=Lh hT4;go_wp2_with fail;go_meet
         case rel=>exact⟨g4,c4,ac2++[32]++it,by rw[List.length_append,List.length_append,hl2];rfl,by simp only[List.length_append,List.length_cons,List.length_nil];omega,Lh (by rw[hac2.out];simp),by simp only[List.length_append,List.length_cons,List.length_nil];exact hT4,B4⟩
      case rest=>
       clear hT2 B2 hac2 hl2 hal2 k2 k3 hal;obtain⟨g5,cap5,ac5,rfl,hal5,hac5,hT5,B5⟩:=hcut;rw[←hac5.out] at hF;have Bf:=Lh (B1h.out.trans (B5.out.mono (Nat.le_of_lt hD0)))
       by_cases h65:65536<ac5.length
       ·have v1:decide ((65536:Int)<(ac5.length:Int))=true:=dT (by omega);have v1':decide (65536<ac5.length)=true:=dT h65;rw[if_pos h65] at hF;go_wp2_with fail;go_ret2;exact⟨by rw[hF.out];rfl,Bf.out⟩
       ·have v1:decide ((65536:Int)<(ac5.length:Int))=false:=dF (by omega);have v1':decide (65536<ac5.length)=false:=dF h65;rw[if_neg h65] at hF;have hcv:=qks (st:=9) Tryz.underlying78 Tryz.underlying5 Tryz.underlying9 hT5.out;go_wp2_with fail;go_ret2;exact⟨by rw[hF.out];rfl,Bf.out⟩
def WrE (acc ac:List UInt8):Prop:=ac=acc∨(65536<acc.length∧65536<ac.length)
theorem qiQ (v:Value) (ss:List Smp) (hl:ss.length≤1000000) (hs: ∀s∈ss,SBt s) (w:World) (hv:SLRow w v ss):Calls Tryz.prog 87 #[v] w (qkc ss w):=by
 obtain⟨a,c,rfl⟩:=hv.shape;have HV:=Lh hv;have HS:=Lh hs;obtain⟨n,hn⟩: ∃n,n=ss.length:=⟨_,rfl⟩;have hnh:=Lh hn;obtain⟨R,hR⟩: ∃R,Hid (R=qaR 0 [] ss):=⟨_,Lh rfl⟩;have hW:Hid (qdy ss=if R.1=0 then (if 1000<n then (5,-1,[]) else if 65536<R.2.2.length then (3,-1,[]) else (0,-1,R.2.2)) else (R.1,R.2.1,[])):=Lh (by rw[hR.out,hn];rfl);rw[←hn] at hl⊢;clear hn hs hv;obtain⟨F,hF⟩: ∃F,F=qdy ss:=⟨_,rfl⟩;unfold qkc;rw[←hF] at hW⊢;clear hF;go_enter Tryz.func87,Tryz.ntmps87;go_wp2_with fail;go_loopg [5,6] (n+1) (fun gk s5 s6 wx=> ∃(i:Nat) (acc ac:List UInt8),i≤n∧n - i<gk∧s6= .int .i64 (i:Int)∧ac.length≤65537*i∧Hid (WrE acc ac)∧Hid (qaR i acc (ss.drop i)=R)∧Hid (wx.ownsRow w.heap.size 5 1 s5 ac.length (ac.map qax))∧Hid (Below w.heap.size w wx))
 case atStart=>exact⟨0,[],[],by omega,by omega,by go_num,by simp,Lh (.inl rfl),Lh hR.out.symm,Lh ⟨rfl,.inl ⟨rfl,rfl⟩⟩,Lh (Below.refl _ _)⟩
 case round=>
  obtain⟨i,acc,ac,hi,hgk,rfl,hal,hE,hP,D,B⟩:=hrel;obtain⟨a5,c5,rfl⟩:=qaf D.out
  by_cases hlt:i<n
  ·have hil:i<ss.length:=by rw[←hnh.out];exact hlt
   have u2:decide ((i:Int)<(n:Int))=true:=dT (by omega);have u3:decide (i<n)=true:=dT hlt;obtain⟨bb,off,lv,rfl,hbl,⟨x0,x1,x2,x3⟩,hxl⟩:=(HV.out.on B.out).at' i hil;have hP2:=hP.out;rw[qpb ss i hil,qaR] at hP2;obtain⟨s,hsx⟩: ∃s,Hid (s=ss.getD i qaW):=⟨_,Lh rfl⟩;rw[←hsx.out] at x1 x2 x3 hxl hP2;have hsm:=HS.out s (by rw[hsx.out,List.getD_eq_getElem?_getD,List.getElem?_eq_getElem hil];exact List.getElem_mem _);obtain⟨la,lc,rfl⟩:=hxl.shape;have hll:=qkL s;have cl:=qip _ s hsm.1 hsm.2.1 hsm.2.2 wr ⟨_,rfl,hxl⟩;obtain⟨le,lt,hL⟩: ∃le lt,qcd s=(le,lt):=⟨_,_,rfl⟩;rw[hL] at hP2 hll;simp only[hL] at cl;replace cl:=Lh cl;replace hP2:=Lh hP2;obtain⟨ls,bits,st,t⟩:=s;simp only at x0 x1 x2 x3 cl;clear hxl hsm hsx hP hL hil;go_wp2_with fail;refine cl.out.mono ?_;rintro e w2 ⟨rfl,B2⟩;replace D:=Lh (qag D.out B2);replace B:=Lh (B.out.trans (B2.mono B.out.size));clear B2 cl x0 x1 x2 x3
   by_cases he:le=0
   ·have v1:(le !=0)=false:=by simp[he]
    have hP3:=hP2.out;simp only[he,if_true] at hP3
    have hE3:Hid (∃acc3,WrE acc3 (ac++(lt++[10]))∧qaR (i+1) acc3 (ss.drop (i+1))=R):=Lh (by
     rcases hE.out with e|⟨e1,e2⟩
     ·by_cases ha:acc.length≤65536
      ·rw[if_pos ha] at hP3;exact⟨_,.inl (by rw[e]),hP3⟩
      ·rw[if_neg ha] at hP3;exact⟨_,.inr ⟨by omega,by rw[List.length_append,e];omega⟩,hP3⟩
     ·rw[if_neg (by omega)] at hP3
      exact⟨_,.inr ⟨e1,by rw[List.length_append];omega⟩,hP3⟩)
    have hsz:=B.out.size;have zl:=qac lt;have hll':lt.length≤65536:=hll;have hbd:ac.length≤65537*1000000:=by omega
    clear hP2 hP3 hE
    go_wp2_with (first
     |(at_builtin;refine L.app_str rfl (.tmp 27) (.tmp 28) 78 9 rfl w.heap.size 5 Tryz.underlying78 Tryz.underlying9 info5 _ ac.length ac rfl D.out (BS lt) rfl (by omega) hsz ?_;rintro v5 w5 hO5 hb5 hsh5;have B5:=Lh (B.out.trans hb5);have hsz5:=B5.out.size;rw[show(BS lt).data.toList=lt by simp[BS],zl] at hO5;rw[zl] at hsh5;replace hO5:=Lh hO5;clear hb5)
     |(at_builtin;refine qb6 rfl (.tmp 29) (.tmp 30) 78 rfl (u:= .int .u8 10) w.heap.size (.int .u8 0) 1 Tryz.underlying78 info5 rfl _ (ac.length+lt.length) _ rfl rfl hO5.out rfl (by omega) (by omega) hsz5 ?_;rintro v6 w6 hO6 hb6 _ _ hsh6;have B6:=Lh (B5.out.trans hb6);replace hO6:=Lh hO6;clear hb6))
    obtain⟨acc3,e3,e4⟩:=hE3.out;go_roundg (gk - 1)
    case measure=>omega
    case rel=>exact⟨i+1,acc3,ac++(lt++[10]),by omega,by omega,by go_num,by simp only[List.length_append,List.length_cons,List.length_nil];omega,Lh e3,Lh e4,Lh (by have:=hO6.out;rw[←List.append_assoc,List.map_append,List.length_append,List.length_append];exact this),B6⟩
   ·have v1:(le !=0)=true:=by simpa using he
    have hFF:F=(le,(i:Int),[]):=by
     have h1:=hP2.out;rw[if_neg he] at h1;rw[hW.out,←h1];simp only[if_neg he]
    have hFh:=Lh hFF;clear hFF hP2;go_wp2_with fail;go_ret3;exact⟨by rw[hFh.out];rfl,B.out⟩
  ·obtain rfl:i=n:=by omega
   have u2:decide ((i:Int)<(i:Int))=false:=dF (by omega);have hP2:=hP.out;rw[List.drop_of_length_le (by rw[←hnh.out];exact Nat.le_refl _),qaR] at hP2;have hW2:=hW.out;rw[←hP2] at hW2;simp only[if_true] at hW2
   by_cases h1000:1000<i
   ·have v1:decide ((1000:Int)<(i:Int))=true:=dT (by omega);have v1':decide (1000<i)=true:=dT h1000;have hFh:=Lh (hW2.trans (if_pos h1000));clear hW2 hP2 hW hP;go_wp2_with fail;go_ret3;exact⟨by rw[hFh.out];rfl,B.out⟩
   ·have v1:decide ((1000:Int)<(i:Int))=false:=dF (by omega);have v1':decide (1000<i)=false:=dF h1000;rw[if_neg h1000] at hW2;have hE2:=hE.out
    by_cases h65:65536<ac.length
    ·have v2:decide ((65536:Int)<(ac.length:Int))=true:=dT (by omega);have v2':decide (65536<ac.length)=true:=dT h65;have hFh:=Lh (hW2.trans (if_pos (by rcases hE2 with e|⟨e,_⟩;rw[←e];exact h65;exact e)));clear hW2 hP2 hW hP hE2;go_wp2_with fail;go_ret3;exact⟨by rw[hFh.out];rfl,B.out⟩
    ·have v2:decide ((65536:Int)<(ac.length:Int))=false:=dF (by omega);have v2':decide (65536<ac.length)=false:=dF h65;have hea:ac=acc:=by rcases hE2 with e|⟨_,e⟩;exact e;exact absurd e h65
     have hFh:=Lh (hW2.trans (if_neg (by rw[←hea];exact h65)));rw[←hea] at hFh;have hcv:=qdd (dst:=9) Tryz.underlying78 Tryz.underlying5 Tryz.underlying9 D.out;clear hW2 hP2 hW hP hE2 hea hE;go_wp2_with fail;go_ret3;exact⟨by rw[hFh.out];rfl,B.out⟩
theorem qkA {ops:Array Oper} {rest:List Oper} {o:Oper} {a:Act} {Q:Exit→Act→World→Prop} {w:World} (hgd:o.guard=none) (s x:Operand) (t:TypeId)
 (ho:o.op= .call {callee:= .builtin .append,args:=#[s,x],argTypes:=#[t,t]}) (ht:Tryz.prog.underlying t=some (.slice 44)) (base:Nat) (v vm:Value) (ls ms:List Lb) (hs:a.eval s=v) (hx:a.eval x=vm)
 (hown:w.ownsRow base 44 2 v ls.length (qaa ls)) (hm:qaM w vm ms) (hb1:ls.length+ms.length≤1000000) (hbase:base≤w.heap.size)
 (h: ∀v' w',w'.ownsRow base 44 2 v' (ls++ms).length (qaa (ls++ms))→Below base w w'→(∀row,v.ownBlock≠some row→row<w.heap.size→w'.heap[row]?=w.heap[row]?)→wpList Tryz.prog ops Q rest (a.put o.dst v') w'):
 wpList Tryz.prog ops Q (o::rest) a w:=by
 obtain⟨i,hi,hz0,hz1,hz2⟩:=info_parts qgm
 have go: ∀(ad:Addr) (cap:Nat),vm= .slice (some ad) ms.length cap→(∀j u,(qaa ms)[j]?=some u→w.cell? (ad.add j)=some u)→wpList Tryz.prog ops Q (o::rest) a w:=by
  intro ad cap hvm hc;subst hvm;refine wpList_append_own _ hgd s x t ho base 44 i _ 2 32 ht hi hz0 hz1 hz2 rfl (by decide) v ls.length (qaa ls) hs hown ad ms.length cap (qaa ms) hx (qaJ ms) hc (qdt ms) (by unfold maxLen;omega) (by omega) hbase ?_;intro v' w' hown' hg hnil;refine h v' w' ?_ ?_ ?_
  ·rw[List.length_append,qbI];exact hown'
  ·exact(Below.refl base w).grown hg hbase (fun k e'=>(hown.lt k e').1)
  ·intro row hrow hlt;exact hg.block row hlt (fun e'=>hrow e'.symm)
 rcases hm with ⟨a',c',h0,rfl,hms⟩|⟨b,off,cap,hvm,hlt,h3,h4,h5⟩
 ·subst hms
  cases a' with
  |none=>
   rw[h0 rfl] at hx;refine wpList_append_own_none hgd s x t ho base 44 i 2 ht hi v ls.length (qaa ls) hs hown hx ?_;refine h v w ?_ (Below.refl _ _) (fun _ _ _=>rfl);rw[List.append_nil];exact hown
  |some ad=>exact go ad c' rfl (fun j u hj=>by simp[qaa] at hj)
 ·refine go ⟨b,off,none⟩ cap hvm (fun j u hj=>?_);have hj2:j<ms.length*2:=by rw[←qaJ ms];exact(List.getElem?_eq_some_iff.1 hj).1
  rw[show(⟨b,off,none⟩:Addr).add j=⟨b,off+j,none⟩ by simp[Addr.add]]
  have hat: ∀(ms:List Lb) (i:Nat),i<ms.length→(qaa ms)[i*2]?=some (.string (BS (ms.getD i lb0).1))∧(qaa ms)[i*2+1]?=some (.string (BS (ms.getD i lb0).2)):=by
   intro ms
   induction ms with
   |nil=>intro i hi;simp at hi
   |cons y r ih=>
    intro i hi
    cases i with
    |zero=>exact⟨rfl,rfl⟩
    |succ i=>
     have:=ih i (by simpa using hi);rw[show(i+1)*2=i*2+2 by omega];exact this
  obtain⟨k1,k2⟩:=hat ms (j/2) (by omega);obtain⟨g1,g2⟩:=h5 (j/2) (by omega);rcases(show j=j/2*2∨j=j/2*2+1 by omega)with q|q
  ·rw[q] at hj⊢;rw[k1] at hj;cases hj;exact g1
  ·rw[q] at hj⊢;rw[k2] at hj;cases hj;rw[←Nat.add_assoc];exact g2
theorem qn1 (v:Value) (ls:List Lb) (hl:ls.length≤1000000) (w:World) (hr:qaM w v ls):Calls Tryz.prog 144 #[v] w fun e w'=> ∃v',e= .returned v'∧w'.ownsRow w.heap.size 44 2 v' ls.length (qaa ls)∧Below w.heap.size w w':=by
 obtain⟨a,c,rfl⟩:=hr.shape;have hrh:=Lh hr;obtain⟨n,hn⟩: ∃n,n=ls.length:=⟨_,rfl⟩;have hnh:=Lh hn;rw[←hn];have O0:Hid (w.ownsRow w.heap.size 44 2 (.slice none 0 0) ([]:List Lb).length (qaa [])):=Lh ⟨rfl,.inl ⟨rfl,rfl⟩⟩;clear hr hn;go_enter Tryz.func144,Tryz.ntmps144;go_wp2_with (at_builtin;go_must (refine qkA rfl (.tmp 4) (.tmp 5) 32 rfl (by kernel_rfl) w.heap.size _ _ [] ls rfl rfl O0.out (by have:=hrh.out;rwa[←hnh.out] at this) (by simpa using hl) (Nat.le_refl _) ?_);rintro v2 w2 hown hb _;have H:=Lh (And.intro hown hb);obtain⟨a2,c2,rfl⟩:=qaf hown;clear hown hb);go_ret;exact⟨_,rfl,by rw[hnh.out];exact H.out.1,H.out.2⟩
theorem qn4 (v:Value) (ss:List Smp) (hl:ss.length≤1000000) (hs: ∀s∈ss,SBt s) (w:World) (hv:SLRow w v ss):Calls Tryz.prog 84 #[v] w fun e w'=> ∃v',e= .returned v'∧qrC w.heap.size w' v' ss∧Below w.heap.size w w':=by
 obtain⟨a,c,rfl⟩:=hv.shape;have HV:=Lh hv;have HS:=Lh hs;obtain⟨n,hn⟩: ∃n,n=ss.length:=⟨_,rfl⟩;have hnh:=Lh hn;rw[←hn] at hl⊢;clear hn hs hv;go_enter Tryz.func84,Tryz.ntmps84;go_wp2_with fail;go_loopg [3,4] (n+1) (fun gk s3 s4 wx=> ∃(i:Nat) (ps:List SV),i≤n∧n - i<gk∧s4= .int .i64 (i:Int)∧ps.length=i∧Hid (ps.map Prod.fst=ss.take i)∧Hid (wx.ownsRow w.heap.size 34 4 s3 ps.length (qaO ps))∧Hid (∀p∈ps,wx.ownsRow w.heap.size 44 2 p.2 p.1.ls.length (qaa p.1.ls))∧Hid (Below w.heap.size w wx))
 case atStart=>exact⟨0,[],by omega,by omega,by go_num,rfl,Lh rfl,Lh ⟨rfl,.inl ⟨rfl,rfl⟩⟩,Lh (fun p hp=>by cases hp),Lh (Below.refl _ _)⟩
 case round=>
  obtain⟨i,ps,hi,hgk,rfl,hpi,hpf,O,OL,B⟩:=hrel;obtain⟨a3,c3,rfl⟩:=qaf O.out
  by_cases hlt:i<n
  ·have hil:i<ss.length:=by rw[←hnh.out];exact hlt
   have u2:decide ((i:Int)<(n:Int))=true:=dT (by omega);have u3:decide (i<n)=true:=dT hlt;obtain⟨bb,off,lv,rfl,hbl,⟨x0,x1,x2,x3⟩,hxl⟩:=(HV.out.on B.out).at' i hil;obtain⟨s,hsx⟩: ∃s,Hid (s=ss.getD i qaW):=⟨_,Lh rfl⟩;rw[←hsx.out] at x1 x2 x3 hxl;have hsm:=HS.out s (by rw[hsx.out,List.getD_eq_getElem?_getD,List.getElem?_eq_getElem hil];exact List.getElem_mem _);have htk:Hid (ss.take (i+1)=ss.take i++[s]):=Lh (by rw[hsx.out,List.take_add_one,List.getElem?_eq_getElem hil,List.getD_eq_getElem?_getD,List.getElem?_eq_getElem hil];rfl);obtain⟨la,lc,rfl⟩:=hxl.shape;have hsl:=hsm.1.n;have cc:=Lh (fun W (hb:Below wr.heap.size wr W)=>qn1 _ s.ls hsl W (hxl.on hb));have Bx:=(Below.refl wr.heap.size wr).alloc (Nat.le_refl _) (.cells #[.slice la s.ls.length lc,.int .u64 (s.bits:Int),.bool s.st,.int .i64 s.t] 34);have N:SB wr.heap.size (.slice la s.ls.length lc) (s.bits:Int) s.st s.t (wr.alloc (.cells #[.slice la s.ls.length lc,.int .u64 (s.bits:Int),.bool s.st,.int .i64 s.t] 34)):=World.alloc_heap_new wr _;replace N:=Lh N;have hxb:=Lh Bx;obtain⟨ls,bits,st,t⟩:=s;simp only at x0 x1 x2 x3 cc N hxb htk;clear hxl hsm hsx hil Bx;go_wp2_with fail;refine(cc.out _ hxb.out).mono ?_;rintro e w2 ⟨lv2,rfl,own2,B2⟩;have N2:=N.out.on B2;have Bw:=(hxb.out.trans (B2.mono hxb.out.size)).setCell (p:=⟨wr.heap.size,0,none⟩) (Nat.le_refl _) lv2;have O3:=Lh (qag O.out Bw);have OL3:Hid (∀p∈ps,(w2.setCell ⟨wr.heap.size,0,none⟩ lv2).ownsRow w.heap.size 44 2 p.2 p.1.ls.length (qaa p.1.ls)):=Lh (fun p hp=>qag (OL.out p hp) Bw);have own3:=Lh (qbB (base':=w.heap.size) (qam own2 (qai w2 wr.heap.size 0 lv2) (by simp)) (Nat.le_trans B.out.size (by simp)));have B3:=Lh (B.out.trans (Bw.mono B.out.size));have N3:=N2.set0 lv2;have d0:=N2.c0;have f0:=N2.fz 0;have k0:=N3.c0;have k1:=N3.c1;have k2:=N3.c2;have k3:=N3.c3;have hsz:=B3.out.size;obtain⟨a2,c2,rfl⟩:=qaf own2;clear own2 B2 N2 Bw N3 cc hxb;go_upto_region 7 with (fail)
   generalize w2.setCell ⟨wr.heap.size,0,none⟩ (.slice a2 ls.length c2)=w3 at*;go_wp2_with (at_builtin;go_must (refine qk3 rfl (.tmp 20) (.tmp 22) 28 rfl 4 #[.slice a2 ls.length c2,.int .u64 (bits:Int),.bool st,.int .i64 t] rfl (by decide) w.heap.size (.agg #[.slice none 0 0,.int .u64 0,.bool false,.int .i64 0]) 48 (by kernel_rfl) qhZ rfl _ ps.length (qaO ps) (by rw[hpi];rfl) rfl O3.out (by intro u hu;simp at hu;rcases hu with rfl|rfl|rfl|rfl<;>rfl) (by decide) (by omega) hsz ?_);rintro v2 w6 hown3 hb6 hs6 hk6 _;have O6:=Lh (qmn (lv:= .slice a2 ls.length c2) (s:=⟨ls,bits,st,t⟩) O3.out OL3.out own3.out hown3 hk6);have B6:=Lh (B3.out.trans hb6);clear hown3 hb6 hs6 hk6 O3 OL3 own3 B3 hsz);go_roundg (gk - 1)
   case measure=>omega
   case rel=>exact⟨i+1,_,by omega,by omega,by go_num,by rw[List.length_append,hpi];rfl,Lh (by rw[List.map_append,hpf.out,htk.out];rfl),Lh O6.out.1,Lh O6.out.2,B6⟩
  ·obtain rfl:i=n:=by omega
   have u2:decide ((i:Int)<(i:Int))=false:=dF (by omega);have hpf2:=hpf.out;rw[List.take_of_length_le (by rw[←hnh.out];exact Nat.le_refl _)] at hpf2;have R:=Lh (show∃v',Ending.returned (.slice a3 ps.length c3)= .returned v'∧qrC w.heap.size wr v' ss∧Below w.heap.size w wr from⟨_,rfl,⟨ps,hpf2,O.out,OL.out⟩,B.out⟩);clear B O OL;go_wp2_with fail;go_ret;exact R.out
end Go.Proofs.YtdeimnnpcfncpaaGreatDoor.X
