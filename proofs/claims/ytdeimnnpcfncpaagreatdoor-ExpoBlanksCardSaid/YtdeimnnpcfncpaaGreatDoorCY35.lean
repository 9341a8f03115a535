/- Parts of the proof: B4 B5. -/
import Derived.Test.YtdeimnnpcfncpaaGreatDoorCY32
import Derived.Test.YtdeimnnpcfncpaaGreatDoorCY34
set_option linter.unusedVariables false
set_option linter.unusedSimpArgs false
set_option maxRecDepth 100000
set_option maxHeartbeats 64000000
namespace Go.Proofs.YtdeimnnpcfncpaaGreatDoor.X
open Go Go.RowKit
def SIn (W:World) (v:Value) (s:Smp):Prop:= ∃lv,v= .agg #[lv,.int .u64 (s.bits:Int),.bool s.st,.int .i64 s.t]∧qaN W lv s.ls
theorem SIn.on {W W':World} {v:Value} {s:Smp} (h:SIn W v s) (hb:Below W.heap.size W W'):SIn W' v s:=by
 obtain⟨lv,h1,h2⟩:=h;exact⟨lv,h1,h2.on hb⟩
structure SBd (s:Smp):Prop where
 n:s.ls.length≤1000000
 b: ∀x∈s.ls,x.1.length≤1000000000∧x.2.length≤1000000000
 bits:s.bits<18446744073709551616
theorem qjU (ls:List Lb) (n:List UInt8) (h: ∀x∈ls,x.1.length≤1000000000∧x.2.length≤1000000000):(qaI ls n).length≤1000000000:=by
 unfold qaI
 cases hf:ls.find? (fun x=>x.1==n)with
 |none=>simp
 |some x=>exact(h x (List.mem_of_find?_eq_some hf)).2
theorem qm7 (v:Value) (s:Smp) (hs:SBd s) (w:World) (hv:SIn w v s):Calls Tryz.prog 21 #[v] w fun e w'=>e= .returned (.bool (qa5 s))∧Below w.heap.size w w':=by
 obtain⟨lv,rfl,hr⟩:=hv;have hF:Hid (qa5 s=(qaF s.ls&&(qan 58 (qaI s.ls qag)&&((!(Go.Proofs.YtdeimnnpcfncpaaGreatDoor.kindN s.bits==4)||(s.bits==9221120237041090561))&&(s.st||(s.t==0)))))):=Lh rfl;have hgl:=qjU s.ls qag hs.b;obtain⟨h1,h2,h3⟩:=hs;obtain⟨ls,bits,st,t⟩:=s;simp only at hr hF hgl h1 h2 h3⊢;have NB:SB w.heap.size lv (bits:Int) st t (w.alloc (.cells #[lv,.int .u64 (bits:Int),.bool st,.int .i64 t] 34)):=World.alloc_heap_new w _;have Ba:Below w.heap.size w (w.alloc (.cells #[lv,.int .u64 (bits:Int),.bool st,.int .i64 t] 34)):=(Below.refl _ _).alloc (Nat.le_refl _) _;have LR:=Lh (hr.on Ba);have c1:=Lh (qcS lv ls (by omega) h2 _ LR.out);have k0:=NB.c0;have k1:=NB.c1;have k2:=NB.c2;have k3:=NB.c3;replace NB:=Lh NB;replace Ba:=Lh Ba;have e0:Hid ((qa5 ⟨ls,bits,st,t⟩)=qa5 ⟨ls,bits,st,t⟩):=Lh rfl
 cases hr1:qaF ls with
 |false=>
  rw[hr1] at c1 hF;have hF2:Hid (qa5 ⟨ls,bits,st,t⟩=false):=Lh (by rw[hF.out];rfl);clear hF hr hr1;go_enter Tryz.func21,Tryz.ntmps21;go_wp2_with fail;refine c1.out.mono ?_;rintro e w1 ⟨rfl,B1⟩;have B1h:=Lh (Ba.out.trans (B1.mono Ba.out.size));clear B1 c1;go_wp2_with fail;go_ret;exact⟨by rw[hF2.out];rfl,B1h.out⟩
 |true=>
  rw[hr1] at c1 hF;have cg:=Lh (fun W (hL:qaN W lv ls)=>qhh lv ls qag (by omega) W hL);have cm:=fun W=>qch (BS (qaI ls qag)) (by rw[qac];omega) W
  rw[show(BS (qaI ls qag)).data.toList=qaI ls qag by simp[BS]] at cm;obtain⟨gn,hgn⟩: ∃gn,qaI ls qag=gn:=⟨_,rfl⟩;rw[hgn] at cg cm hF;have ck:=Lh (fun W=>qfA bits h3 W);clear hr hr1 hgn
  cases hm:qan 58 gn with
  |false=>
   rw[hm] at cm hF;have hF2:Hid (qa5 ⟨ls,bits,st,t⟩=false):=Lh (by rw[hF.out];rfl);replace cm:=Lh cm;clear hF hm;go_enter Tryz.func21,Tryz.ntmps21;go_wp2_with fail;refine c1.out.mono ?_;rintro e w1 ⟨rfl,B1⟩;have N1:=NB.out.on B1;have k0:=N1.c0;have k1:=N1.c1;have L1:=Lh (LR.out.on B1);have B1h:=Lh (Ba.out.trans (B1.mono Ba.out.size));replace N1:=Lh N1;clear B1 c1;go_wp2_with fail;refine(cg.out _ L1.out).mono ?_;rintro e w2 ⟨rfl,B2⟩;have B2h:=Lh (B1h.out.trans (B2.mono B1h.out.size));clear B2;go_wp2_with fail;refine(cm.out _).mono ?_;rintro e w3 ⟨rfl,rfl⟩;go_wp2_with fail;go_ret;exact⟨by rw[hF2.out];rfl,B2h.out⟩
  |true=>
   rw[hm] at cm hF;replace cm:=Lh cm;clear hm;obtain⟨kb,hkb⟩: ∃kb,Go.Proofs.YtdeimnnpcfncpaaGreatDoor.kindN bits=kb:=⟨_,rfl⟩;have ck':Hid (∀W:World,Calls Tryz.prog 45 #[.int .u64 (bits:Int)] W fun e w'=>e= .returned (.int .u8 ((kb:Nat):Int))∧W=w'):=Lh (fun W=>by rw[←hkb];exact ck.out W);rw[hkb] at hF;clear ck hkb
   have u1:(((kb:Nat):Int)==4)=(kb==4):=by
    rw[Bool.eq_iff_iff,beq_iff_eq,beq_iff_eq];omega
   have u1':(((kb:Nat):Int) !=4)=!(kb==4):=by
    rw[bne,u1]
   have u2:(((bits:Nat):Int)==9221120237041090561)=(bits==9221120237041090561):=by
    rw[Bool.eq_iff_iff,beq_iff_eq,beq_iff_eq];omega
   obtain⟨q1,hq1⟩: ∃q1,(kb==4)=q1:=⟨_,rfl⟩;obtain⟨q2,hq2⟩: ∃q2,(bits==9221120237041090561)=q2:=⟨_,rfl⟩;obtain⟨q3,hq3⟩: ∃q3,(t==0)=q3:=⟨_,rfl⟩;rw[hq1] at u1 u1' hF;rw[hq2] at u2 hF;rw[hq3] at hF;clear hq1 hq2;cases q1<;>cases q2<;>cases st<;>cases q3
   all_goals
    have hF2:=Lh hF.out;clear hF;go_enter Tryz.func21,Tryz.ntmps21;go_wp2_with fail;refine c1.out.mono ?_;rintro e w1 ⟨rfl,B1⟩;have N1:=NB.out.on B1;have k0:=N1.c0;have k1:=N1.c1;have L1:=Lh (LR.out.on B1);have B1h:=Lh (Ba.out.trans (B1.mono Ba.out.size));replace N1:=Lh N1;clear B1 c1;go_wp2_with fail;refine(cg.out _ L1.out).mono ?_;rintro e w2 ⟨rfl,B2⟩;have N2:=N1.out.on B2;have k0:=N2.c0;have k1:=N2.c1;have k2:=N2.c2;have k3:=N2.c3;have B2h:=Lh (B1h.out.trans (B2.mono B1h.out.size));clear B2 N2;go_wp2_with fail;refine(cm.out _).mono ?_;rintro e w3 ⟨rfl,rfl⟩;go_wp2_with fail;refine(ck'.out _).mono ?_;rintro e w3 ⟨rfl,rfl⟩;go_wp2_with fail;go_ret;exact⟨by rw[hF2.out];rfl,B2h.out⟩
theorem qeN (L:List (List UInt8)):Lib.join L [44]=qeo L:=by
 induction L with
 |nil=>rfl
 |cons a t ih=>
  cases t with
  |nil=>rw[Lib.join_one];rfl
  |cons b u=>
   rw[Lib.join_cons];show _=a++(44::qeo (b::u));rw[←ih,Lib.join_cons];simp[Lib.joinTail]
def qe6 (ls:List Lb):List (List UInt8):=(ls.filter (fun x=>!(x.1==qag))).map lbT
def qdK (ts:List (List UInt8)):List Value:=ts.map (fun t=> .string (BS t))
theorem qmf (ls:List Lb) (i:Nat) (h:i<ls.length):qe6 (ls.take (i+1))=qe6 (ls.take i)++(if ((ls.getD i lb0).1==qag)=true then [] else [lbT (ls.getD i lb0)]):=by
 unfold qe6;rw[List.take_add_one,List.getElem?_eq_getElem h,List.filter_append,List.map_append,List.getD_eq_getElem?_getD,List.getElem?_eq_getElem h];show _++([ls[i]].filter _).map lbT=_++(if (ls[i].1==qag)=true then _ else _);cases hx:(ls[i].1==qag)<;>simp[hx]
theorem qs2:(Tryz.prog.info? 9).map (fun i=>(i.zero,i.size,i.bytes))=some (some (.string ⟨#[]⟩),1,16):=by kernel_rfl
theorem qia (ls:List Lb) (bits:Nat) (st:Bool) (t:Int):qbT ⟨ls,bits,st,t⟩=qaI ls qag++((if qe6 ls=[] then [] else 123::(qeo (qe6 ls)++[125]))++(32::(qak bits++(if st then 32::Lib.itoa t else [])))):=by
 unfold qbT qe6;dsimp only
 by_cases h:ls.filter (fun x=>!(x.1==qag))=[]
 ·rw[h];rfl
 ·rw[if_neg h,if_neg (show¬List.map lbT (ls.filter fun x=>!(x.1==qag))=[] from fun e=>h (List.map_eq_nil_iff.1 e))]
theorem qjJ (x:Lb) (h1:qan 95 x.1=true) (h2:qbi x.2=true):(lbT x).length≤2200:=by
 have a:=(qa2 h1).2.2;have b:=L.quL_len x.2;unfold qbi at h2;rw[Bool.and_eq_true,decide_eq_true_eq] at h2;unfold lbT;simp only[List.length_append,List.length_cons,List.length_nil];omega
theorem qql {W:World} {base g cap:Nat} {ts:List (List UInt8)} (h:W.ownsRow base 9 1 (.slice (some ⟨g,0,none⟩) ts.length cap) ts.length (qdK ts)):g<W.heap.size∧ts.length≤cap∧ ∀j x,(ts.map BS)[j]?=some x→W.cell? ⟨g,0+j,none⟩=some (.string x):=by
 rcases h.2 with ⟨h1,_⟩|⟨g',cap',cur,h1,h2,h3,h4,h5,h6,h7⟩
 ·cases h1
 ·simp only[Value.slice.injEq,Option.some.injEq,Addr.mk.injEq] at h1;obtain⟨⟨rfl,_⟩,_,rfl⟩:=h1;refine⟨(Array.getElem?_eq_some_iff.1 h3).1,h4,fun j x hj=>?_⟩
  have hjl:j<ts.length:=by
   have:=(List.getElem?_eq_some_iff.1 hj).1;simpa using this
  rw[Nat.zero_add,Lib.cell_of_heap h3];have:(cur.toList.take (ts.length*1))[j]?=(qdK ts)[j]?:=by rw[h7]
  rw[List.getElem?_take_of_lt (by omega)] at this;rw[←Array.getElem?_toList,this];unfold qdK;rw[List.getElem?_map] at hj⊢
  cases hx:ts[j]? with
  |none=>rw[hx] at hj;cases hj
  |some y=>rw[hx] at hj;cases hj;rfl
theorem qi0 {W:World} {base e k n:Nat} {v:Value} {xs:List Value} (h:W.ownsRow base e k v n xs): ∃a c,v= .slice a n c:=qae h
theorem qmv {W:World} {base e k n c:Nat} {a:Option Addr} {xs:List Value} (h:W.ownsRow base e k (.slice a n c) n xs) (hn:0<n): ∃g,a=some ⟨g,0,none⟩:=by
 rcases h.2 with ⟨h1,h2⟩|⟨g,cap,cur,h1,_⟩
 ·omega
 ·simp only[Value.slice.injEq] at h1;exact⟨g,h1.1⟩
theorem qkv (v:Value) (s:Smp) (hs:SBd s) (h0: -9223372036854775808≤s.t) (h9:s.t≤9223372036854775807) (w:World) (hG:EGlb w) (hv:SIn w v s):
 Calls Tryz.prog 19 #[v] w fun e w'=>e= .returned (.tuple #[.string (BS (qhg s).2),.int .i64 (qhg s).1])∧Below w.heap.size w w':=by
 obtain⟨lv,rfl,hr⟩:=hv;have hgl:=qjU s.ls qag hs.b;obtain⟨a0,c0,rfl⟩:=hr.shape;have NB:SB w.heap.size (.slice a0 s.ls.length c0) (s.bits:Int) s.st s.t (w.alloc (.cells #[.slice a0 s.ls.length c0,.int .u64 (s.bits:Int),.bool s.st,.int .i64 s.t] 34)):=World.alloc_heap_new w _;have Ba:Below w.heap.size w (w.alloc (.cells #[.slice a0 s.ls.length c0,.int .u64 (s.bits:Int),.bool s.st,.int .i64 s.t] 34)):=(Below.refl _ _).alloc (Nat.le_refl _) _;have LR:=Lh (hr.on Ba);have c1:=Lh (qm7 _ s hs _ ⟨_,rfl,LR.out⟩);have hGh:=Lh (hG.on Ba);have k0:=NB.c0;have k1:=NB.c1;have k2:=NB.c2;have k3:=NB.c3;replace NB:=Lh NB;replace Ba:=Lh Ba;have hsh:=Lh hs;clear hr hG hs;have hF:Hid (qhg s=if qa5 s=true then (if 65536<(qbT s).length then (3,[]) else (0,qbT s)) else (239,[])):=Lh rfl;obtain⟨R,hR⟩: ∃R,R=qhg s:=⟨_,rfl⟩;rw[←hR] at hF⊢;clear hR
 cases hrt:qa5 s with
 |false=>
  rw[hrt,if_neg (by decide)] at hF;rw[hrt] at c1;obtain⟨ls,bits,st,t⟩:=s;simp only at c1 k0 k1 k2 k3 NB Ba⊢;clear hrt;go_enter Tryz.func19,Tryz.ntmps19;go_wp2_with fail;refine c1.out.mono ?_;rintro e w1 ⟨rfl,B1⟩;have B1h:=Lh (Ba.out.trans (B1.mono Ba.out.size));clear B1 c1;go_wp2_with fail;go_ret2;exact⟨by rw[hF.out];rfl,B1h.out⟩
 |true=>
  rw[hrt,if_pos rfl] at hF;obtain⟨p1,p2,p3,p4⟩:=qaZ hrt;rw[hrt] at c1;obtain⟨q1,q2,q3⟩:=(qaP _).1 p1;obtain⟨n1,n2,n3⟩:=qa2 p2;obtain⟨_,e4⟩:=qcB s.bits hsh.out.bits;have hbt:=hsh.out.bits;have q2h:=Lh q2;clear q2 q3 p3 p4 n1 n2 hrt p2 p1 hsh;obtain⟨ls,bits,st,t⟩:=s;simp only at c1 k0 k1 k2 k3 NB Ba LR hF hgl h0 h9 q1 n3 e4 hbt q2h hGh⊢;have hLT:Hid (qbT ⟨ls,bits,st,t⟩=_):=Lh (qia ls bits st t);rw[hLT.out] at hF;obtain⟨n,hn⟩: ∃n,n=ls.length:=⟨_,rfl⟩;have hnh:=Lh hn;rw[←hn] at c1 k0 NB Ba LR q1 hGh⊢;clear hn hLT;go_enter Tryz.func19,Tryz.ntmps19;go_wp2_with fail;refine c1.out.mono ?_;rintro e w1 ⟨rfl,B1⟩;have N1:=NB.out.on B1;have L1:=Lh (LR.out.on B1);have G1:=Lh (hGh.out.on B1);have B1h:=Lh (Ba.out.trans (B1.mono Ba.out.size));have k0:=N1.c0;replace N1:=Lh N1;have hD0:w.heap.size<w1.heap.size:=N1.out.lt;clear B1 c1 NB LR hGh Ba;have own0:Hid (w1.ownsRow w1.heap.size 9 1 (.slice none 0 0) (qe6 (ls.take 0)).length (qdK (qe6 (ls.take 0)))):=Lh ⟨rfl,.inl ⟨rfl,rfl⟩⟩;go_wp2_with fail;go_loopg [4,16] (n+1) (fun gk s4 s16 wx=> ∃i:Nat,i≤n∧n - i<gk∧s16= .int .i64 (i:Int)∧Hid (wx.ownsRow w1.heap.size 9 1 s4 (qe6 (ls.take i)).length (qdK (qe6 (ls.take i))))∧Hid (Below w1.heap.size w1 wx))
  case atStart=>exact⟨0,by omega,by omega,rfl,own0,Lh (Below.refl _ _)⟩
  case round=>
   clear own0;obtain⟨i,hi,hgk,rfl,own,B2⟩:=hrel
   by_cases hlt:i<n
   ·have u2:decide ((i:Int)<(n:Int))=true:=dT (by omega);have u3:decide (i<n)=true:=dT hlt;have hil:i<ls.length:=by rw[←hnh.out];exact hlt
    obtain⟨b,off,rfl,hbl,x1,x2⟩:=(L1.out.on B2.out).at' i hil;obtain⟨x,hx⟩: ∃x,Hid (x=ls.getD i lb0):=⟨_,Lh rfl⟩;rw[←hx.out] at x1 x2;have hxo:qb0 x=0:=(q2h.out x (by rw[hx.out,List.getD_eq_getElem?_getD,List.getElem?_eq_getElem hil];exact List.getElem_mem _)).1;obtain⟨xn,xv⟩:=qdj hxo;have hxl:=qjJ x xn xv;have hxn:=(qa2 xn).2.2;have hxv:x.2.length≤1024:=(by unfold qbi at xv;rw[Bool.and_eq_true,decide_eq_true_eq] at xv;exact xv.1);have hql:=L.quL_len x.2;have hot:=qmf ls i hil;rw[←hx.out] at hot;replace hot:=Lh hot;have tn:=qad x.1;have hBB: ∀ob,Hid (Below w1.heap.size w1 (wr.alloc ob)):=fun ob=>Lh (B2.out.alloc B2.out.size ob)
    have hBa: ∀ob,Hid (Below wr.heap.size wr (wr.alloc ob)):=fun ob=>Lh ((Below.refl _ _).alloc (Nat.le_refl _) ob)
    have hcnt:(qe6 (ls.take i)).length≤64:=(by
     unfold qe6;rw[List.length_map];have:=List.length_filter_le (fun x:Lb=>!(x.1==qag)) (ls.take i)
     rw[List.length_take] at this;omega)
    clear hxo xn xv
    cases hsn:(x.1==qag)with
    |true=>
     rw[hsn,if_pos rfl,List.append_nil] at hot;have hsn':(x.1==([95,95,110,97,109,101,95,95]:List UInt8))=true:=hsn;have hsn2:(x.1 !=([95,95,110,97,109,101,95,95]:List UInt8))=false:=by rw[bne,hsn'];rfl
     clear hsn;go_wp2_with fail;go_roundg (gk - 1)
     case measure=>omega
     case rel=>exact⟨i+1,by omega,by omega,by go_num,by rw[hot.out];exact Lh (qah own.out (hBa _).out),hBB _⟩
    |false=>
     rw[hsn,if_neg (by decide)] at hot;have hsn':(x.1==([95,95,110,97,109,101,95,95]:List UInt8))=false:=hsn;have hsn2:(x.1 !=([95,95,110,97,109,101,95,95]:List UInt8))=true:=by rw[bne,hsn'];rfl
     have cq:=Lh (fun W=>L.quote_of (BS x.2) (by rw[qac];omega) (BS (34::L.quL x.2++[34])) (by rw[show(BS x.2).data.toList=x.2 by simp[BS]];rfl) W);obtain⟨Q,hQ⟩: ∃Q,Q=34::L.quL x.2++[34]:=⟨_,rfl⟩;have hQl:Q.length≤2100:=by rw[hQ];simp only[List.length_append,List.length_cons,List.length_nil];omega
     rw[←hQ] at cq;obtain⟨T1,hT1⟩: ∃T1,T1=x.1++[61]:=⟨_,rfl⟩;obtain⟨T2,hT2⟩: ∃T2,T2=lbT x:=⟨_,rfl⟩;have cat1:BS x.1++(⟨#[61]⟩:ByteArray)=BS T1:=by rw[hT1];exact qaM _ [61]
     have cat2:BS T1++BS Q=BS T2:=by rw[hT2,hT1,hQ,qaM];unfold lbT;rw[List.append_assoc];rfl
     have z0:=qac x.1;have z1:=qac T1;have z2:=qac Q;have y1:T1.length≤130:=by rw[hT1,List.length_append];simp;omega
     rw[←hT2] at hot hxl;clear hsn hQ hT1 hT2;go_wp2_with fail;refine(cq.out _).mono ?_;rintro e w3 ⟨rfl,B3⟩;have d0:w3.cell? ⟨wr.heap.size,0,none⟩=some (.string (BS x.1)):=(B3.cell (p:=⟨wr.heap.size,0,none⟩) (by simp)).trans (by rw[Lib.cell_of_heap (Array.getElem?_push_size)];rfl);have B4:=Lh ((hBa _).out.trans (B3.mono (hBa _).out.size));have own4:=Lh (qah own.out B4.out);have B5:=Lh (B2.out.trans (B4.out.mono B2.out.size));have hs5:w1.heap.size≤w3.heap.size:=B5.out.size;clear B3 cq x1 x2 hBB hBa B4 own;go_wp2_with (at_builtin;go_must (refine qgm rfl (.tmp 29) (.tmp 35) 42 rfl 1 #[.string (BS T2)] rfl (by decide) w1.heap.size (.string ⟨#[]⟩) 16 (by kernel_rfl) qs2 rfl _ (qe6 (ls.take i)).length (qdK (qe6 (ls.take i))) rfl rfl own4.out (by intro u hu;simp at hu;subst hu;rfl) (by decide) (by omega) hs5 ?_);rintro v2 w10 hown2' hb5 _ _ _;have own10:=Lh hown2';have B10:=Lh (B5.out.trans hb5);clear hown2' hb5 own4 B5);go_roundg (gk - 1)
     case measure=>omega
     case rel=>exact⟨i+1,by omega,by omega,by go_num,by rw[hot.out,List.length_append];unfold qdK;rw[List.map_append];exact own10,B10⟩
   ·obtain rfl:i=n:=by omega
    have u2:decide ((i:Int)<(i:Int))=false:=dF (by omega);have htk:ls.take i=ls:=List.take_of_length_le (by rw[←hnh.out];exact Nat.le_refl _);rw[htk] at own
    have hcnt:(qe6 ls).length≤64:=(by
     unfold qe6;rw[List.length_map];have:=List.length_filter_le (fun x:Lb=>!(x.1==qag)) ls
     rw[←hnh.out] at this;omega)
    have N2:=N1.out.on B2.out;have k0:=N2.c0;have cg:=Lh (qhh _ ls qag (by rw[←hnh.out];omega) wr (L1.out.on B2.out));have G2:=Lh (G1.out.on B2.out);have B2h:=Lh (B1h.out.trans (B2.out.mono (Nat.le_of_lt hD0)));replace N2:=Lh N2;obtain⟨nm0,hnm0⟩: ∃nm0,nm0=qaI ls qag:=⟨_,rfl⟩;rw[←hnm0] at cg n3 hF
    have hall: ∀t∈qe6 ls,t.length≤2200:=fun t ht=>by
     obtain⟨x,hx,rfl⟩:=List.mem_map.1 ht;obtain⟨xn,xv⟩:=qdj (q2h.out x (List.mem_filter.1 hx).1).1;exact qjJ x xn xv
    have hjl:=qdL 2200 (qe6 ls) hall;have cE:=Lh (fun W (hW:EGlb W)=>qgd bits hbt W hW.b.a.tab);have cI:=Lh (fun W (hW:EGlb W)=>qk8 t h0 h9 W hW);have hil:=L.itoa_len t h0 h9;obtain⟨ex,hex⟩: ∃ex,ex=qak bits:=⟨_,rfl⟩;obtain⟨it,hit⟩: ∃it,it=Lib.itoa t:=⟨_,rfl⟩;have cE':Hid (∀W,EGlb W→Calls Tryz.prog 25 #[.int .u64 (bits:Int)] W fun e w'=>e= .returned (.string (BS ex))∧Below W.heap.size W w'):=Lh (fun W hW=>by rw[hex];exact cE.out W hW);rw[←hit] at cI hil hF;rw[←hex] at e4 hF;clear hall q2h hnm0 hex hit cE hgl htk;obtain⟨oth,hoth⟩: ∃oth,oth=qe6 ls:=⟨_,rfl⟩;rw[←hoth] at own hcnt hjl hF;clear hoth;obtain⟨a4,c4,hv4⟩:=qi0 own.out;subst hv4
    by_cases ho:oth=[]
    ·subst ho;rw[if_pos rfl,List.nil_append] at hF;have u4:decide ((0:Int)<((([]:List (List UInt8)).length:Nat):Int))=false:=rfl;go_wp2_with fail;refine cg.out.mono ?_;rintro e w5 ⟨rfl,B5⟩;have N5:=N2.out.on B5;have G5:=Lh (G2.out.on B5);have B5h:=Lh (B2h.out.trans (B5.mono B2h.out.size));have k1:=N5.c1;replace N5:=Lh N5;clear B5 cg N2 G2 B2h own;obtain⟨L0,hL0⟩: ∃L0,L0=nm0:=⟨_,rfl⟩;rw[←hL0] at hF n3⊢;have y0:L0.length≤200000:=by omega
     clear hL0;obtain⟨E1,hE1⟩: ∃E1,E1=32::ex:=⟨_,rfl⟩;obtain⟨L5,hL5⟩: ∃L5,L5=L0++E1:=⟨_,rfl⟩;have cat5:(⟨#[32]⟩:ByteArray)++BS ex=BS E1:=by rw[hE1];exact qaM [32] ex
     have cat6:BS L0++BS E1=BS L5:=by rw[hL5];exact qaM _ _
     have zx:=qac ex;have z5:=qac E1;have z6:=qac L0;have z7:=qac L5;have y5:E1.length≤1201:=by rw[hE1,List.length_cons];omega
     have y6:L5.length≤202000:=by rw[hL5,List.length_append];omega
     go_wp2_with fail;refine(cE'.out _ G5.out).mono ?_;rintro e w7 ⟨rfl,B7⟩;have N7:=N5.out.on B7;have G7:=Lh (G5.out.on B7);have B7h:=Lh (B5h.out.trans (B7.mono B5h.out.size));have k2:=N7.c2;have k3:=N7.c3;clear B7 cE' N5 G5 B5h N7
     cases st with
     |false=>
      have hF3:Hid (R=if 65536<L5.length then (3,[]) else (0,L5)):=Lh (by rw[hF.out,hL5,hE1];simp);clear hF hL5 hE1
      by_cases hlg:65536<L5.length
      ·have u7:decide ((65536:Int)<((BS L5).size:Int))=true:=dT (by omega);rw[if_pos hlg] at hF3;go_wp2_with fail;go_ret2;exact⟨by rw[hF3.out];rfl,B7h.out⟩
      ·have u7:decide ((65536:Int)<((BS L5).size:Int))=false:=dF (by omega);rw[if_neg hlg] at hF3;go_wp2_with fail;go_ret2;exact⟨by rw[hF3.out];rfl,B7h.out⟩
     |true=>
      obtain⟨I1,hI1⟩: ∃I1,I1=32::it:=⟨_,rfl⟩;obtain⟨L6,hL6⟩: ∃L6,L6=L5++I1:=⟨_,rfl⟩;have cat7:(⟨#[32]⟩:ByteArray)++BS it=BS I1:=by rw[hI1];exact qaM [32] it
      have cat8:BS L5++BS I1=BS L6:=by rw[hL6];exact qaM _ _
      have hF3:Hid (R=if 65536<L6.length then (3,[]) else (0,L6)):=Lh (by rw[hF.out,hL6,hL5,hE1,hI1];simp);have zi:=qac it;have z8:=qac I1;have z9:=qac L6;have y8:I1.length≤30:=by rw[hI1,List.length_cons];omega
      have y9:L6.length≤203000:=by rw[hL6,List.length_append];omega
      clear hF hL5 hE1 hI1 hL6;go_wp2_with fail;refine(cI.out _ G7.out).mono ?_;rintro e w8 ⟨rfl,B8⟩;have B8h:=Lh (B7h.out.trans (B8.mono B7h.out.size));clear B8 cI B7h
      by_cases hlg:65536<L6.length
      ·have u7:decide ((65536:Int)<((BS L6).size:Int))=true:=dT (by omega);rw[if_pos hlg] at hF3;go_wp2_with fail;go_ret2;exact⟨by rw[hF3.out];rfl,B8h.out⟩
      ·have u7:decide ((65536:Int)<((BS L6).size:Int))=false:=dF (by omega);rw[if_neg hlg] at hF3;go_wp2_with fail;go_ret2;exact⟨by rw[hF3.out];rfl,B8h.out⟩
    ·rw[if_neg ho] at hF;have hne:0<oth.length:=List.length_pos_iff.2 ho;have u4:decide ((0:Int)<((oth.length:Nat):Int))=true:=dT (by omega);have u4':decide (0<oth.length)=true:=dT hne;obtain⟨g4,rfl⟩: ∃g,a4=some ⟨g,0,none⟩:=qmv own.out hne;clear ho;go_wp2_with fail;refine cg.out.mono ?_;rintro e w5 ⟨rfl,B5⟩;have N5:=Lh (N2.out.on B5);have G5:=Lh (G2.out.on B5);have B5h:=Lh (B2h.out.trans (B5.mono B2h.out.size));have own5:=qah own.out B5;obtain⟨j1,j2,j3⟩:=qql own5
     have cj:=Tryz.strings_Join g4 0 c4 (oth.map BS) ⟨#[44]⟩ w5 j3 j1 (by rw[List.length_map];omega) (by rw[List.length_map];exact j2) (by
      rw[List.map_map,show(fun x:ByteArray=>x.data.toList)∘BS=id from funext fun x=>by simp[BS],List.map_id];show(Lib.join oth [44]).length≤_
      rw[qeN];omega)
     rw[List.map_map,show(fun x:ByteArray=>x.data.toList)∘BS=id from funext fun x=>by simp[BS],List.map_id,List.length_map,show(⟨#[44]⟩:ByteArray).data.toList=[44] from rfl,qeN] at cj;obtain⟨J,hJ⟩: ∃J,J=qeo oth:=⟨_,rfl⟩;rw[←hJ] at cj hjl hF;have cj':Hid (Calls Tryz.prog 37 #[.slice (some ⟨g4,0,none⟩) oth.length c4,.string ⟨#[44]⟩] w5 fun e w'=>e= .returned (.string (BS J))∧Below w5.heap.size w5 w'):=Lh cj;have zJ:=qac J
     have yJ:J.length≤150000:=by
      have:oth.length*(2200+1)≤64*2201:=Nat.mul_le_mul hcnt (Nat.le_refl _);omega
     clear hJ cj j1 j2 j3 own5 own B5 cg N2 G2 B2h;obtain⟨T1,hT1⟩: ∃T1,T1=123::J:=⟨_,rfl⟩;obtain⟨T2,hT2⟩: ∃T2,T2=T1++[125]:=⟨_,rfl⟩;obtain⟨L0,hL0⟩: ∃L0,L0=nm0++T2:=⟨_,rfl⟩;have cat1:(⟨#[123]⟩:ByteArray)++BS J=BS T1:=by rw[hT1];exact qaM [123] J
     have cat2:BS T1++(⟨#[125]⟩:ByteArray)=BS T2:=by rw[hT2];exact qaM _ [125]
     have cat3:BS nm0++BS T2=BS L0:=by rw[hL0];exact qaM _ _
     have z1:=qac T1;have z2:=qac T2;have z3:=qac nm0;have y1:T1.length≤150001:=by rw[hT1,List.length_cons];omega
     have y2:T2.length≤150002:=by rw[hT2,List.length_append];simp;omega
     have y0:L0.length≤200000:=by rw[hL0,List.length_append];omega
     have hF2:Hid (R=if 65536<(L0++(32::(ex++(if st=true then 32::it else [])))).length then (3,[]) else (0,L0++(32::(ex++(if st=true then 32::it else []))))):=Lh (by
      rw[hF.out]
      rw[show nm0++((123::(J++[125]))++(32::(ex++(if st=true then 32::it else []))))=L0++(32::(ex++(if st=true then 32::it else []))) by rw[hL0,hT2,hT1];simp])
     have hF:=hF2;clear hF2 hT1 hT2 hL0;go_wp2_with fail;refine cj'.out.mono ?_;rintro e w6 ⟨rfl,B6⟩;have N6:=N5.out.on B6;have G6:=Lh (G5.out.on B6);have B6h:=Lh (B5h.out.trans (B6.mono B5h.out.size));have k1:=N6.c1;replace N6:=Lh N6;clear B6 cj' N5 G5 B5h;have N5:=N6;have G5:=G6;have B5h:=B6h;clear N6 G6 B6h;obtain⟨E1,hE1⟩: ∃E1,E1=32::ex:=⟨_,rfl⟩;obtain⟨L5,hL5⟩: ∃L5,L5=L0++E1:=⟨_,rfl⟩;have cat5:(⟨#[32]⟩:ByteArray)++BS ex=BS E1:=by rw[hE1];exact qaM [32] ex
     have cat6:BS L0++BS E1=BS L5:=by rw[hL5];exact qaM _ _
     have zx:=qac ex;have z5:=qac E1;have z6:=qac L0;have z7:=qac L5;have y5:E1.length≤1201:=by rw[hE1,List.length_cons];omega
     have y6:L5.length≤202000:=by rw[hL5,List.length_append];omega
     go_wp2_with fail;refine(cE'.out _ G5.out).mono ?_;rintro e w7 ⟨rfl,B7⟩;have N7:=N5.out.on B7;have G7:=Lh (G5.out.on B7);have B7h:=Lh (B5h.out.trans (B7.mono B5h.out.size));have k2:=N7.c2;have k3:=N7.c3;clear B7 cE' N5 G5 B5h N7
     cases st with
     |false=>
      have hF3:Hid (R=if 65536<L5.length then (3,[]) else (0,L5)):=Lh (by rw[hF.out,hL5,hE1];simp);clear hF hL5 hE1
      by_cases hlg:65536<L5.length
      ·have u7:decide ((65536:Int)<((BS L5).size:Int))=true:=dT (by omega);rw[if_pos hlg] at hF3;go_wp2_with fail;go_ret2;exact⟨by rw[hF3.out];rfl,B7h.out⟩
      ·have u7:decide ((65536:Int)<((BS L5).size:Int))=false:=dF (by omega);rw[if_neg hlg] at hF3;go_wp2_with fail;go_ret2;exact⟨by rw[hF3.out];rfl,B7h.out⟩
     |true=>
      obtain⟨I1,hI1⟩: ∃I1,I1=32::it:=⟨_,rfl⟩;obtain⟨L6,hL6⟩: ∃L6,L6=L5++I1:=⟨_,rfl⟩;have cat7:(⟨#[32]⟩:ByteArray)++BS it=BS I1:=by rw[hI1];exact qaM [32] it
      have cat8:BS L5++BS I1=BS L6:=by rw[hL6];exact qaM _ _
      have hF3:Hid (R=if 65536<L6.length then (3,[]) else (0,L6)):=Lh (by rw[hF.out,hL6,hL5,hE1,hI1];simp);have zi:=qac it;have z8:=qac I1;have z9:=qac L6;have y8:I1.length≤30:=by rw[hI1,List.length_cons];omega
      have y9:L6.length≤203000:=by rw[hL6,List.length_append];omega
      clear hF hL5 hE1 hI1 hL6;go_wp2_with fail;refine(cI.out _ G7.out).mono ?_;rintro e w8 ⟨rfl,B8⟩;have B8h:=Lh (B7h.out.trans (B8.mono B7h.out.size));clear B8 cI B7h
      by_cases hlg:65536<L6.length
      ·have u7:decide ((65536:Int)<((BS L6).size:Int))=true:=dT (by omega);rw[if_pos hlg] at hF3;go_wp2_with fail;go_ret2;exact⟨by rw[hF3.out];rfl,B8h.out⟩
      ·have u7:decide ((65536:Int)<((BS L6).size:Int))=false:=dF (by omega);rw[if_neg hlg] at hF3;go_wp2_with fail;go_ret2;exact⟨by rw[hF3.out];rfl,B8h.out⟩
end Go.Proofs.YtdeimnnpcfncpaaGreatDoor.X
