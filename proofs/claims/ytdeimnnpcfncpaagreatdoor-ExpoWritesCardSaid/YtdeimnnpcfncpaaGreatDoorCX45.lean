/- Parts of the proof: ZE. -/
import Derived.Test.YtdeimnnpcfncpaaGreatDoorCX34
set_option linter.unusedVariables false
set_option linter.unusedSimpArgs false
set_option maxRecDepth 100000
set_option maxHeartbeats 64000000
namespace Go.Proofs.YtdeimnnpcfncpaaGreatDoor
open Go Go.RowKit
theorem qln (l:List UInt8) (h:qaK l) (h0:qak l=0): ∀c∈l,c=48:=by
 induction l with
 |nil=>intro c hc;cases hc
 |cons c t ih=>
  obtain⟨h1,h2,h3⟩:=qa7 h
  have hc:c=48:=by
   rcases Nat.lt_or_ge 48 c.toNat with g|g
   ·have:=qcq c t h (fun e=>by rw[e] at g;exact absurd g (by decide));have:=Nat.pow_pos (n:=t.length) (show 0<10 by decide);omega
   ·exact qtr (by omega)
  subst hc;have h4:qak t=0:=by rw[qaE] at h0;omega
  intro x hx;rw[List.mem_cons] at hx;rcases hx with rfl|hx
  ·rfl
  ·exact ih h3 h4 x hx
theorem qjD (l:List UInt8) (h: ∀c∈l,c=48):Lib.trimRightB l 48=[]:=by
 unfold Lib.trimRightB
 have key: ∀m:List UInt8,(∀c∈m,c=48)→m.dropWhile (fun x=>x==48)=[]:=by
  intro m
  induction m with
  |nil=>intro _;rfl
  |cons c t ih=>
   intro hm;rw[hm c (List.mem_cons_self ..)];exact ih (fun x hx=>hm x (List.mem_cons_of_mem _ hx))
 rw[key _ (fun c hc=>h c (List.mem_reverse.1 hc))];rfl
theorem qmj (m:Nat) (h:0<m): ∃c t,Lib.decDigits m=c::t∧c≠48:=by
 induction m using Nat.strongRecOn with
 |_ m ih=>
  rw[Lib.decDigits]
  split
  ·rename_i h10
   exact⟨_,[],rfl,fun e=>by have:=congrArg UInt8.toNat e;rw[qaL _ (by omega)] at this;have e48:(48:UInt8).toNat=48:=rfl;omega⟩
  ·obtain⟨c,t,e,hc⟩:=ih (m/10) (by omega) (by omega);exact⟨c,_,by rw[e,List.cons_append],hc⟩
theorem qiY (s:Bool) (r m:Nat) (hr:r<INF) (h:V r=m*UU):qao (sgw s+r)=(if s then [45] else [])++Lib.decDigits m:=by
 obtain⟨k4,k3⟩:=qdQ s r hr;obtain⟨L,q,e,hd,hq,hq2,hv⟩:=qkp s r UU qr5 hr;have hp:=qlE
 have hv':qak L=m*10^q:=by
  apply Nat.eq_of_mul_eq_mul_right hp;rw[hv,h,Nat.mul_right_comm]
 have hL:L=L.take (L.length - q)++L.drop (L.length - q):=(List.take_append_drop _ _).symm;have hT:(L.drop (L.length - q)).length=q:=by rw[List.length_drop];omega
 obtain⟨hW,hTd⟩:=qbS (hL▸hd)
 have hsplit:qak L=qak (L.take (L.length - q))*10^q+qak (L.drop (L.length - q)):=by
  conv=>lhs;rw[hL]
  rw[qay,hT]
 have hlt:=qcJ _ hTd;rw[hT] at hlt
 have eW:qak (L.take (L.length - q))=m∧qak (L.drop (L.length - q))=0:=by
  rw[hv'] at hsplit;generalize qak (L.take (L.length - q))=A at*;generalize qak (L.drop (L.length - q))=B at*;generalize 10^q=Q at*
  have h1:A=m:=by
   rcases Nat.lt_trichotomy A m with l|l|l
   ·have:(A+1)*Q≤m*Q:=Nat.mul_le_mul_right _ l;rw[Nat.add_mul] at this;omega
   ·exact l
   ·have:(m+1)*Q≤A*Q:=Nat.mul_le_mul_right _ l;rw[Nat.add_mul] at this;omega
  subst h1;exact⟨rfl,by omega⟩
 have x1:exW (sgw s+r)=if m=0 then [] else Lib.decDigits m:=by
  unfold exW;rw[e];show Lib.trimLeftB (L.take (L.length - q)) 48=_;rw[qg0 _ hW,eW.1]
 have x2:exT (sgw s+r)=[]:=by
  unfold exT;rw[e];exact qjD _ (qln _ hTd eW.2)
 unfold qao;rw[if_neg k4,if_neg k3,x1,x2,if_pos rfl,List.append_nil]
 have y1:(if 9223372036854775808≤sgw s+r then [45] else [])=(if s=true then [45] else ([]:List UInt8)):=by
  by_cases hs:s=true
  ·rw[if_pos ((qiG s r hr).2 hs),if_pos hs]
  ·rw[if_neg (fun h=>hs ((qiG s r hr).1 h)),if_neg hs]
 have y2:(if (if m=0 then [] else Lib.decDigits m)=[] then [48] else (if m=0 then [] else Lib.decDigits m))=Lib.decDigits m:=by
  by_cases h0:m=0
  ·subst h0;rw[if_pos rfl,if_pos rfl,Lib.decDigits_one (by decide)];rfl
  ·rw[if_neg h0,if_neg (qf6 m)]
 rw[y1,y2]
def dle (n:Nat):List UInt8:=if h:n=0 then [] else UInt8.ofNat (48+n%10)::dle (n/10)
termination_by n
decreasing_by omega
theorem qdP:dle 0=[]:=by rw[dle];rfl
theorem qjL (n:Nat) (h:0<n):dle n=UInt8.ofNat (48+n%10)::dle (n/10):=by rw[dle,dif_neg (by omega)]
theorem qfv (n:Nat) (h:0<n):(dle n).reverse=Lib.decDigits n:=by
 induction n using Nat.strongRecOn with
 |_ n ih=>
  rw[qjL n h,Lib.decDigits]
  by_cases h10:n<10
  ·rw[dif_pos h10,show n/10=0 by omega,qdP,show n%10=n by omega];rfl
  ·rw[dif_neg h10,List.reverse_cons,ih (n/10) (by omega) (by omega)]
theorem qod (P r x B:Nat) (h:10*P+r=B):10*((r*65536+x)/10+65536*P)+(r*65536+x)%10=x+65536*B:=by omega
theorem qhW {wx:World} {B g n c:Nat} {o:List Nat} (h:wx.ownsRow B 3 1 (.slice (some ⟨g,0,none⟩) n c) n (o.map encI)):o.length=n:=by
 have:=h.1;rw[List.length_map,Nat.mul_one] at this;exact this
theorem qer (a:Option Addr) (c x:Nat) (hx:(bg x).length≤1000) (hxd:(dle x).length≤5000) (w:World) (h:qcM w a c (bg x)):
 Calls Tryz.prog 202 #[.slice a (bg x).length c] w fun e w'=> ∃v,e= .returned v∧w'.ownsRow w.heap.size 5 1 v (dle x).length ((dle x).reverse.map qax)∧Below w.heap.size w w':=by
 obtain⟨D,hD⟩: ∃D,Hid (D=dle x):=⟨_,Lh rfl⟩;rw[←hD.out] at hxd⊢;obtain⟨L0,hL0⟩: ∃L,Hid (L=(bg x).length):=⟨_,Lh rfl⟩;rw[←hL0.out] at hx⊢;have hN0:=Lh h;have I0:Hid (w.ownsRow w.heap.size 5 1 (.slice none 0 0) ([]:List UInt8).length (([]:List UInt8).map qax)):=Lh ⟨rfl,.inl ⟨rfl,rfl⟩⟩;clear h;go_enter Tryz.func202,Tryz.ntmps202;go_upto_block 0 with (fail)
 go_cut [3] (fun s3 wx=>Hid (wx.ownsRow w.heap.size 5 1 s3 D.length (D.map qax))∧Hid (Below w.heap.size w wx))
 case first=>
  go_wp2_with fail;go_loopg [0,3] (x+1) (fun gk s0 s3 wx=> ∃(z L:Nat) (a:Option Addr) (c:Nat) (o:List UInt8),z<gk∧s0= .slice a L c∧L≤1000∧Hid (L=(bg z).length)∧Hid (qcM wx a c (bg z))∧Hid (o++dle z=D)∧o.length≤5000∧Hid (wx.ownsRow w.heap.size 5 1 s3 o.length (o.map qax))∧Hid (Below w.heap.size w wx))
  case atStart=>exact⟨x,L0,a,c,[],by omega,rfl,hx,hL0,hN0,Lh hD.out.symm,by simp,I0,Lh (Below.refl _ _)⟩
  case round=>
   clear I0 hN0 hL0 hx;clear a c;obtain⟨z,L,a,c,o,hgz,rfl,hL1,hL,hN,hoD,hol,I,B⟩:=hrel
   by_cases h0:0<L
   ·have hz0:0<z:=by
     rcases Nat.eq_zero_or_pos z with e|e
     ·rw[hL.out,e,qa8] at h0;cases h0
     ·exact e
    have t1:decide ((0:Int)<(L:Int))=true:=dT (by omega);have t1':decide (0<L)=true:=dT h0;obtain⟨a3,c3,rfl⟩:=qe1 I.out;have hBs:=B.out.size;obtain⟨i3,hi3,hz0',hz1,hz2⟩:=info_parts info3;obtain⟨wm,hmk,hown,hgr⟩:=run_make_full (P:=Tryz.prog) wr wr.heap.size 251 3 i3 (.int .i64 0) 1 Tryz.underlying251 hi3 hz0' hz1 .i64 .i64 L (by rw[hz2];omega) (by unfold maxLen;omega) (Nat.le_refl _);have hwb:Below wr.heap.size wr wm:=(Below.refl wr.heap.size wr).grown hgr (Nat.le_refl _) (fun _ e=>by cases e);obtain⟨g,hg⟩: ∃g,g=wr.heap.size:=⟨_,rfl⟩
    have In:Hid (wm.ownsRow w.heap.size 3 1 (.slice (some ⟨g,0,none⟩) L L) L ((List.replicate L 0).map encI)):=Lh (by
     rw[hg]
     have e:(madeCells (Value.int IntKind.i64 0).cells (L*1)).toList=(List.replicate L 0).map encI:=by
      apply List.ext_getElem?;intro j;rw[Nat.mul_one,List.getElem?_map,List.getElem?_replicate]
      by_cases hj:j<L
      ·rw[if_pos hj];simp[madeCells,hj];rw[show(Value.int IntKind.i64 0).cells=#[Value.int .i64 0] from rfl];simp[Nat.mod_one,encI]
      ·rw[if_neg hj];simp[madeCells];omega
     rw[←e];rcases hown.2 with ⟨q1,_⟩|⟨g',cap',cur,q1,q2,q3,q4,q5,q6,q7⟩
     ·cases q1
     ·exact⟨hown.1,.inr ⟨g',cap',cur,q1,by cases q1;omega,q3,q4,q5,q6,q7⟩⟩)
    obtain⟨b,off,hat0⟩:=hN.out.at'
    have hat:Hid (∀i,i<L→a=some ⟨b,off,none⟩∧b<g∧wm.cell? ⟨b,off+i,none⟩=some (.int .i64 (((bg z).getD i 0:Nat):Int))):=Lh (fun i hi=>by
     obtain⟨q1,q2,q3⟩:=hat0 i (by rw[←hL.out];exact hi)
     exact⟨q1,by rw[hg];exact q2,by rw[hwb.cell q2];exact q3⟩)
    clear hat0;have Bm:=Lh (B.out.trans (hwb.mono B.out.size))
    have Im:Hid (wm.ownsRow w.heap.size 5 1 (.slice a3 o.length c3) o.length (o.map qax)):=Lh (by
     rcases I.out.2 with ⟨q1,q2⟩|⟨g',cap',cur,q1,q2,q3,q4⟩
     ·exact⟨I.out.1,.inl ⟨q1,q2⟩⟩
     ·refine⟨I.out.1,.inr ⟨g',cap',cur,q1,q2,?_,q4⟩⟩
      rw[hwb.block g' (Array.getElem?_eq_some_iff.1 q3).1];exact q3)
    have hgn:Hid (∀g2 cap2 n2,(Value.slice a3 o.length c3)= .slice (some ⟨g2,0,none⟩) n2 cap2→g2<g):=Lh (by
     intro g2 cap2 n2 e;rcases I.out.2 with ⟨q1,q2⟩|⟨g',cap',cur,q1,q2,q3,q4⟩
     ·rw[q1] at e;cases e
     ·rw[q1] at e;obtain⟨e1,_,_⟩:=(Value.slice.injEq ..).mp e;cases e1;have:=(Array.getElem?_eq_some_iff.1 q3).1
      omega)
    have hgB:w.heap.size≤g:=by omega
    have hgm:g<wm.heap.size:=by
     rcases In.out.2 with ⟨q1,q2⟩|⟨g',cap',cur,q1,q2,q3,q4⟩
     ·cases q1
     ·cases q1;exact(Array.getElem?_eq_some_iff.1 q3).1
    have In2:Hid (wm.ownsRow g 3 1 (.slice (some ⟨g,0,none⟩) L L) L ((List.replicate L 0).map encI)):=Lh (by
     rcases In.out.2 with ⟨q1,q2⟩|⟨g',cap',cur,q1,q2,q3,q4⟩
     ·cases q1
     ·exact⟨In.out.1,.inr ⟨g',cap',cur,q1,by cases q1;exact Nat.le_refl _,q3,q4⟩⟩)
    obtain⟨Z,hZ⟩: ∃Z,Hid (Z=bg z):=⟨_,Lh rfl⟩;rw[←hZ.out] at hat;have hZl:Hid (Z.length=L):=Lh (by rw[hZ.out,hL.out]);have hgh:=Lh hg;clear hown hgr hi3 hz0' hz1 hz2 hwb I hN In hL hg;go_upto_block 2 with (fail)
    rw[←hgh.out];go_cut [4] (fun s4 wx=> ∃(r:Nat) (nx:List Nat),s4= .int .i64 (r:Int)∧r<10∧Hid (wx.ownsRow g 3 1 (.slice (some ⟨g,0,none⟩) L L) L (nx.map encI))∧Hid (Dg nx)∧Hid (10*bv nx+r=z)∧Hid (Below g wm wx))
    case first=>
     go_wp2_with fail;go_loopg [4,6] (L+1) (fun gk s4 s6 wx=> ∃(p r:Nat) (nx:List Nat),p<gk∧p≤L∧s6= .int .i64 ((p:Int) - 1)∧s4= .int .i64 (r:Int)∧r<10∧Hid (wx.ownsRow g 3 1 (.slice (some ⟨g,0,none⟩) L L) L (nx.map encI))∧Hid (Dg nx)∧Hid (10*bv (nx.drop p)+r=bv (Z.drop p))∧Hid (Below g wm wx))
     case atStart=>
      refine⟨L,0,List.replicate L 0,by omega,by omega,rfl,rfl,by omega,In2,Lh (fun y hy=>by rw[List.mem_replicate] at hy;omega),Lh ?_,Lh (Below.refl _ _)⟩;rw[List.drop_of_length_le (by simp),List.drop_of_length_le (by rw[hZl.out];exact Nat.le_refl _)];rfl
     case round=>
      clear In2 hmk;obtain⟨p,r,nx,hpg,hpL,rfl,rfl,hr,I,hDn,hV,Bx⟩:=hrel
      by_cases hp0:0<p
      ·obtain⟨q,rfl⟩: ∃q,p=q+1:=⟨p - 1,by omega⟩;have e1:(((q+1:Nat):Int) - 1)=(q:Int):=by omega
       rw[e1];have t2:decide ((0:Int)≤(q:Int))=true:=dT (by omega);obtain⟨rfl,hbg,hcell⟩:=hat.out q (by omega);have hc1:wr.cell? ⟨b,off+q,none⟩=some (.int .i64 ((Z.getD q 0:Nat):Int)):=by rw[Bx.out.cell (p:=⟨b,off+q,none⟩) hbg];exact hcell
       obtain⟨zq,hzq⟩: ∃y,Hid (y=Z.getD q 0):=⟨_,Lh rfl⟩;rw[←hzq.out] at hc1
       have hz6:zq<65536:=by
        rw[hzq.out,hZ.out,List.getD_eq_getElem?_getD,List.getElem?_eq_getElem (by rw[←hZ.out,hZl.out];omega)];exact qle z _ (List.getElem_mem _)
       have hnl:=qhW I.out;have hfz:=qbK I.out q;obtain⟨t,ht⟩: ∃t,t=r*65536+zq:=⟨_,rfl⟩;have hti:(r:Int)*65536+(zq:Int)=(t:Int):=by omega
       have htb:t<655360:=by omega
       have hnc:wr.cell? ⟨g,q,none⟩=some (.int .i64 ((nx.getD q 0:Nat):Int)):=by
        rw[I.out.cellAt q (by omega),List.getElem?_map,List.getElem?_eq_getElem (by omega),List.getD_eq_getElem?_getD,List.getElem?_eq_getElem (by omega)];rfl
       have hV2:Hid (10*bv ((nx.set q (t/10)).drop q)+t%10=bv (Z.drop q)):=Lh (by
        rw[drop_at Z q (by rw[hZl.out];omega),←hzq.out,drop_at (nx.set q (t/10)) q (by rw[List.length_set];omega),List.drop_set_of_lt (by omega)]
        have e3:(nx.set q (t/10)).getD q 0=t/10:=by
         rw[List.getD_eq_getElem?_getD,List.getElem?_set_self (by omega)];rfl
        rw[e3];show 10*(t/10+65536*bv (nx.drop (q+1)))+t%10=zq+65536*bv (Z.drop (q+1));have:=qod (bv (nx.drop (q+1))) r zq _ hV.out
        rw[ht];exact this)
       have hD2:Hid (Dg (nx.set q (t/10))):=Lh (fun y hy=>by
        rcases List.mem_or_eq_of_mem_set hy with h|h
        ·exact hDn.out y h
        ·omega)
       have hI2: ∀(W:World) (v:Value),v= .int .i64 ((t/10:Nat):Int)→W.ownsRow g 3 1 (.slice (some ⟨g,0,none⟩) L L) L (nx.map encI)→Hid ((W.setCell ⟨g,q,none⟩ v).ownsRow g 3 1 (.slice (some ⟨g,0,none⟩) L L) L ((nx.set q (t/10)).map encI)):=fun W v hv hW=>by
        have:=qb4 hW q v;rw[hv,show(Value.int .i64 ((t/10:Nat):Int))=encI (t/10)from rfl,←List.map_set] at this;rw[hv];exact Lh this
       replace hI2:=Lh hI2;clear hV hDn ht hcell hnl e1;go_wp2_with fail;go_roundg (gk - 1)
       case measure=>omega
       case rel=>exact⟨q,t%10,nx.set q (t/10),by omega,by omega,by go_num,by go_num,by omega,hI2.out _ _ rfl I.out,hD2,hV2,Lh (Below.setCell (p:=⟨g,q,none⟩) Bx.out (Nat.le_refl g) _)⟩
      ·obtain rfl:p=0:=by omega
       have t2:decide ((0:Int)≤((0:Nat):Int) - 1)=false:=rfl
       have hV2:Hid (10*bv nx+r=z):=Lh (by
        have:=hV.out;rw[List.drop_zero,List.drop_zero,hZ.out,qlw] at this
        exact this)
       clear hV;go_wp2_with fail;go_meet;exact⟨r,nx,rfl,hr,I,hDn,hV2,Bx⟩
    case rest=>
     obtain⟨r,nx,rfl,hr,I,hDn,hV,Bx⟩:=hcut;clear In2 hmk hat hZ hZl;have B2:Hid (Below w.heap.size w wc):=Lh (Bm.out.trans (Bx.out.mono hgB))
     have I2:Hid (wc.ownsRow w.heap.size 5 1 (.slice a3 o.length c3) o.length (o.map qax)):=Lh (by
      rcases Im.out.2 with ⟨q1,q2⟩|⟨g',cap',cur,q1,q2,q3,q4⟩
      ·exact⟨Im.out.1,.inl ⟨q1,q2⟩⟩
      ·refine⟨Im.out.1,.inr ⟨g',cap',cur,q1,q2,?_,q4⟩⟩
       rw[Bx.out.block g' (hgn.out g' cap' _ q1)];exact q3)
     have hnl:=qhW I.out
     have hd:Hid ((48:Int)+(r:Int)=((UInt8.ofNat (48+z%10)).toNat:Int)):=Lh (by
      rw[qaL _ (by omega)];have:=hV.out
      omega)
     have hz10:Hid (bv nx=z/10):=Lh (by have:=hV.out;omega);have hoD2:Hid ((o++[UInt8.ofNat (48+z%10)])++dle (z/10)=D):=Lh (by rw[←hoD.out,qjL z hz0,List.append_assoc];rfl)
     have hol2:(o++[UInt8.ofNat (48+z%10)]).length≤5000:=by
      have:=congrArg List.length hoD2.out;rw[List.length_append] at this;omega
     obtain⟨dg,hdg⟩: ∃y,Hid (y=UInt8.ofNat (48+z%10)):=⟨_,Lh rfl⟩;rw[←hdg.out] at hd hoD2 hol2;have hBs2:=B2.out.size;have hgc:Hid (g<wc.heap.size):=Lh (by have:=Bx.out.size;omega);clear hV Bx Bm B Im hoD;go_wp2_with (at_builtin;go_must (refine qb6 rfl (.tmp 35) (.tmp 39) 78 rfl (u:= .int .u8 (48+(r:Int))) w.heap.size (.int .u8 0) 1 Tryz.underlying78 info5 rfl _ o.length _ rfl rfl I2.out rfl (by omega) (by omega) hBs2 ?_);rintro v2 w3 hown2' hb2 hs2 hkp hv3;have hown2:=Lh hown2';clear hown2');obtain⟨g4,cap4,rfl⟩:=hv3
     have hO:OB w3 g (.slice (some ⟨g,0,none⟩) nx.length L) nx:=by
      unfold OB;rw[hnl];rcases I.out.2 with ⟨q1,q2⟩|⟨g',cap',cur,q1,q2,q3,q4⟩
      ·cases q1
      ·refine⟨I.out.1,.inr ⟨g',cap',cur,q1,q2,?_,q4⟩⟩;have e2:g'=g:=by cases q1;rfl
       subst e2;rw[hkp g' (fun e=>?_) hgc.out]
       ·exact q3
       ·rcases I2.out.2 with ⟨p1,_⟩|⟨gg,cc,cu,p1,_⟩
        ·rw[p1] at e;have e':(none:Option Nat)=some g':=e;cases e'
        ·have h9:=hgn.out gg cc _ p1;rw[p1] at e;have e':some gg=some g':=e;cases e';omega
     have ct:=qfk (some ⟨g,0,none⟩) L g nx hDn.out (by omega) w3 hO;rw[hz10.out,hnl] at ct;replace ct:=Lh ct
     have I3:Hid (w3.ownsRow w.heap.size 5 1 (.slice (some ⟨g4,0,none⟩) (o.length+1) cap4) (o++[dg]).length ((o++[dg]).map qax)):=Lh (by
      have:=hown2.out;rw[hd.out] at this
      rw[List.length_append,List.map_append];exact this)
     have B3:=Lh (B2.out.trans hb2);clear hO hown2 hkp I I2 B2 hb2 hs2;go_wp2_with fail;refine ct.out.mono ?_;rintro e w4 ⟨v,rfl,hOt,rfl⟩;obtain⟨a5,c5,rfl⟩:=hOt.shape;have hN5:=Lh hOt.nrow;have hl5:=hOt.1;obtain⟨L5,hL5⟩: ∃L5,Hid (L5=(bg (z/10)).length):=⟨_,Lh rfl⟩
     have hL5b:L5≤1000:=by
      rw[hL5.out,←hz10.out];have:=qpf nx hDn.out;unfold trN at this;omega
     rw[←hL5.out];clear ct hOt hl5;go_wp2_with fail;go_roundg (gk - 1)
     case measure=>omega
     case rel=>exact⟨z/10,L5,a5,c5,o++[dg],by omega,rfl,hL5b,hL5,hN5,hoD2,hol2,I3,B3⟩
   ·obtain rfl:L=0:=by omega
    have hz0:z=0:=by
     rcases Nat.eq_zero_or_pos z with e|e
     ·exact e
     ·have:=hL.out;rw[qbZ z e] at this;cases this
    have hoE:o=D:=by have:=hoD.out;rw[hz0,qdP,List.append_nil] at this;exact this
    subst hoE;clear hoD;go_wp2_with fail;go_meet;exact⟨I,B⟩
 case rest=>
  obtain⟨I,B⟩:=hcut;clear I0 hN0 hL0 hx hD;obtain⟨n,hn⟩: ∃n,Hid (n=D.length):=⟨_,Lh rfl⟩;obtain⟨a3,c3,rfl⟩:=qe1 I.out;rw[←hn.out] at I hxd⊢;go_upto_block 4 with (fail)
  go_cut [3] (fun s3 wx=>s3= .slice a3 n c3∧Hid (wx.ownsRow w.heap.size 5 1 (.slice a3 n c3) n (D.reverse.map qax))∧Hid (Below w.heap.size w wx))
  case first=>
   go_wp2_with fail;go_loopg [7] (n+1) (fun gk s7 wx=> ∃(i:Nat) (q:List UInt8),n/2 - i<gk∧i≤n/2∧s7= .int .i64 (i:Int)∧q.length=n∧Hid (wx.ownsRow w.heap.size 5 1 (.slice a3 n c3) n (q.map qax))∧Hid (∀j,j<n→q.getD j 0=if j<i∨n - 1 - j<i then D.getD (n - 1 - j) 0 else D.getD j 0)∧Hid (Below w.heap.size w wx))
   case atStart=>exact⟨0,D,by omega,by omega,rfl,hn.out.symm,I,Lh (fun j hj=>by rw[if_neg (by omega)]),B⟩
   case round=>
    clear I B;obtain⟨i,q,hgk,hi,rfl,hql,I,hQ,B⟩:=hrel
    by_cases hlt:i<n/2
    ·have t1:decide ((i:Int)<((n/2:Nat):Int))=true:=dT (by omega);have t1':decide (i<n/2)=true:=dT hlt
     obtain⟨g,cap,rfl,rfl⟩: ∃g cap,a3=some ⟨g,0,none⟩∧c3=cap:=by
      rcases I.out.2 with ⟨q1,q2⟩|⟨g',cap',cur,q1,_⟩
      ·omega
      ·cases q1;exact⟨g',c3,rfl,rfl⟩
     have hat: ∀j,j<n→wr.cell? ⟨g,j,none⟩=some (.int .u8 ((q.getD j 0).toNat:Int)):=fun j hj=>by
      rw[I.out.cellAt j (by omega),List.getElem?_map,List.getElem?_eq_getElem (by omega),List.getD_eq_getElem?_getD,List.getElem?_eq_getElem (by omega)];rfl
     have h1:=hat i (by omega);have h2:=hat (n - 1 - i) (by omega);have f1:=qbK I.out i;have f2:=qbK I.out (n - 1 - i);obtain⟨x1,hx1⟩: ∃y,Hid (y=q.getD i 0):=⟨_,Lh rfl⟩;obtain⟨x2,hx2⟩: ∃y,Hid (y=q.getD (n - 1 - i) 0):=⟨_,Lh rfl⟩;rw[←hx1.out] at h1;rw[←hx2.out] at h2
     have hI2:Hid (((wr.setCell ⟨g,i,none⟩ (.int .u8 (x2.toNat:Int))).setCell ⟨g,n - 1 - i,none⟩ (.int .u8 (x1.toNat:Int))).drew.ownsRow w.heap.size 5 1 (.slice (some ⟨g,0,none⟩) n c3) n (((q.set i x2).set (n - 1 - i) x1).map qax)):=Lh (by
      have:=qb4 (qb4 I.out i (qax x2)) (n - 1 - i) (qax x1);rw[←List.map_set,←List.map_set] at this
      exact this)
     have hgB:w.heap.size≤g:=by
      rcases I.out.2 with ⟨q1,q2⟩|⟨g',cap',cur,q1,q2,_⟩
      ·cases q1
      ·cases q1;exact q2
     have hB2:Hid (Below w.heap.size w ((wr.setCell ⟨g,i,none⟩ (.int .u8 (x2.toNat:Int))).setCell ⟨g,n - 1 - i,none⟩ (.int .u8 (x1.toNat:Int))).drew):=Lh (Below.drew (Below.setCell (p:=⟨g,n - 1 - i,none⟩) (Below.setCell (p:=⟨g,i,none⟩) B.out hgB _) hgB _))
     have hQ2:Hid (∀j,j<n→((q.set i x2).set (n - 1 - i) x1).getD j 0=if j<i+1∨n - 1 - j<i+1 then D.getD (n - 1 - j) 0 else D.getD j 0):=Lh (fun j hj=>by
      have hq1:=hQ.out i (by omega);have hq2:=hQ.out (n - 1 - i) (by omega);rw[if_neg (by omega)] at hq1;rw[if_neg (by omega)] at hq2;rw[←hx1.out] at hq1;rw[←hx2.out] at hq2
      by_cases e1:j=n - 1 - i
      ·rw[if_pos (by omega),e1,List.getD_eq_getElem?_getD,List.getElem?_set_self (by rw[List.length_set];omega),show n - 1 - (n - 1 - i)=i by omega];exact hq1
      ·by_cases e2:j=i
       ·rw[if_pos (by omega),e2,List.getD_eq_getElem?_getD,List.getElem?_set_ne (by omega),List.getElem?_set_self (by omega)];exact hq2
       ·have hq3:=hQ.out j hj;rw[List.getD_eq_getElem?_getD,List.getElem?_set_ne (by omega),List.getElem?_set_ne (by omega),←List.getD_eq_getElem?_getD,hq3]
        by_cases e3:j<i∨n - 1 - j<i
        ·rw[if_pos e3,if_pos (by omega)]
        ·rw[if_neg e3,if_neg (by omega)])
     clear hat hQ I B hx1 hx2;go_upto_region 16 with (fail)
     go_region
     all_goals go_wp2_with fail
     all_goals go_roundg (gk - 1)
     case measure=>omega
     case rel=>exact⟨i+1,(q.set i x2).set (n - 1 - i) x1,by omega,by omega,by go_num,by simp[hql],hI2,hQ2,hB2⟩
    ·have t1:decide ((i:Int)<((n/2:Nat):Int))=false:=dF (by omega);have t1':decide (i<n/2)=false:=dF hlt
     have hqe:q=D.reverse:=by
      apply List.ext_getElem?;intro j
      by_cases hj:j<n
      ·have h1:=hQ.out j hj;rw[List.getD_eq_getElem?_getD,List.getElem?_eq_getElem (by omega)] at h1;rw[List.getElem?_eq_getElem (by omega),List.getElem?_reverse (by rw[←hn.out];exact hj),←hn.out,List.getElem?_eq_getElem (by rw[←hn.out];omega)]
       congr 1
       have h2:q[j]'(by omega)=if j<i∨n - 1 - j<i then D.getD (n - 1 - j) 0 else D.getD j 0:=h1
       rw[h2]
       split
       ·rw[List.getD_eq_getElem?_getD,List.getElem?_eq_getElem (by rw[←hn.out];omega)];rfl
       ·have:n - 1 - j=j:=by omega
        rw[List.getD_eq_getElem?_getD,List.getElem?_eq_getElem (by rw[←hn.out];exact hj)];simp only[this];rfl
      ·rw[List.getElem?_eq_none (by omega),List.getElem?_eq_none (by rw[List.length_reverse,←hn.out];omega)]
     subst hqe;clear hQ;go_wp2_with fail;go_meet;exact⟨rfl,I,B⟩
  case rest=>
   obtain⟨rfl,I,B⟩:=hcut;have h9:Hid (wc.ownsRow w.heap.size 5 1 (.slice a3 n c3) D.length (D.reverse.map qax)):=Lh (by have h8:=I.out;have e:=hn.out;rw[e] at h8⊢;exact h8);go_wp2_with fail;go_ret;exact⟨_,rfl,h9.out,B.out⟩
theorem qda (v:Nat) (hv:v<18446744073709551616) (w:World):Calls Tryz.prog 150 #[.int .u64 v] w fun e w'=>e= .returned (.int .u8 ((kindN v:Nat):Int))∧w=w':=by
 unfold kindN;have e1:(v:Int)/4503599627370496%2048=((v/4503599627370496%2048:Nat):Int):=by omega
 have e2:(v:Int)%4503599627370496=((v%4503599627370496:Nat):Int):=by omega
 obtain⟨x,hx⟩: ∃x,x=v/4503599627370496%2048:=⟨_,rfl⟩;obtain⟨y,hy⟩: ∃y,y=v%4503599627370496:=⟨_,rfl⟩;rw[←hx] at e1⊢;rw[←hy] at e2⊢;replace hx:=Lh hx;replace hy:=Lh hy
 by_cases g1:x=2047
 ·have u1:((x:Int)==2047)=true:=by simp[g1]
  rw[if_pos g1]
  by_cases g2:y=0
  ·have u2:decide ((0:Int)<(y:Int))=false:=dF (by omega);have u2':decide (0<y)=false:=dF (by omega);rw[if_pos g2];subst g1;clear g2;go_enter Tryz.func150,Tryz.ntmps150;go_wp2_with fail;go_ret;exact⟨rfl,rfl⟩
  ·have u2:decide ((0:Int)<(y:Int))=true:=dT (by omega);have u2':decide (0<y)=true:=dT (by omega);rw[if_neg g2];subst g1;clear g2;go_enter Tryz.func150,Tryz.ntmps150;go_wp2_with fail;go_ret;exact⟨rfl,rfl⟩
 ·have u1:((x:Int)==2047)=false:=by simp;omega
  rw[if_neg g1]
  by_cases g2:0<x
  ·have u2:decide ((0:Int)<(x:Int))=true:=dT (by omega);have u2':decide (0<x)=true:=dT g2;rw[if_pos g2];clear g1;go_enter Tryz.func150,Tryz.ntmps150;go_wp2_with fail;go_ret;exact⟨rfl,rfl⟩
  ·have u2:decide ((0:Int)<(x:Int))=false:=dF (by omega);have u2':decide (0<x)=false:=dF g2;rw[if_neg g2]
   by_cases g3:0<y
   ·have u3:decide ((0:Int)<(y:Int))=true:=dT (by omega);have u3':decide (0<y)=true:=dT g3;rw[if_pos g3];clear g1 g2;go_enter Tryz.func150,Tryz.ntmps150;go_wp2_with fail;go_ret;exact⟨rfl,rfl⟩
   ·have u3:decide ((0:Int)<(y:Int))=false:=dF (by omega);have u3':decide (0<y)=false:=dF g3;rw[if_neg g3];clear g1 g2;go_enter Tryz.func150,Tryz.ntmps150;go_wp2_with fail;go_ret;exact⟨rfl,rfl⟩
theorem qne: ∀(A B:List UInt8),A.length=B.length→qaK A→qaK B→qak A=qak B→A=B:=by
 intro A
 induction A with
 |nil=>intro B h _ _ _;exact(List.eq_nil_of_length_eq_zero h.symm).symm
 |cons a s ih=>
  intro B h hA hB hv
  cases B with
  |nil=>cases h
  |cons b t=>
   obtain⟨a1,a2,a3⟩:=qa7 hA;obtain⟨b1,b2,b3⟩:=qa7 hB;have hl:s.length=t.length:=by simpa using h
   rw[qaE,qaE,hl] at hv;have l1:=qcJ s a3;have l2:=qcJ t b3;rw[hl] at l1
   have he:a.toNat - 48=b.toNat - 48:=by
    generalize 10^t.length=T at*;rcases Nat.lt_trichotomy (a.toNat - 48) (b.toNat - 48)with g|g|g
    ·have:(a.toNat - 48+1)*T≤(b.toNat - 48)*T:=Nat.mul_le_mul_right _ g;rw[Nat.add_mul] at this;omega
    ·exact g
    ·have:(b.toNat - 48+1)*T≤(a.toNat - 48)*T:=Nat.mul_le_mul_right _ g;rw[Nat.add_mul] at this;omega
   have hab:a=b:=UInt8.toNat_inj.1 (by omega);subst hab;rw[ih t hl a3 b3 (by omega)]
theorem qgX (A B:List UInt8) (hA:qaK A) (hB:qaK B) (h:qak A*10^B.length=qak B*10^A.length) (nB: ∀m,B≠m++[48]) (hl:A.length≤B.length):A=B:=by
 obtain⟨k,hk⟩: ∃k,B.length=A.length+k:=⟨B.length - A.length,by omega⟩;have hp:0<10^A.length:=Nat.pow_pos (by decide)
 have h2:qak (A++List.replicate k 48)=qak B:=by
  rw[qay,qcf _ (fun c hc=>(List.mem_replicate.1 hc).2),List.length_replicate,Nat.add_zero];apply Nat.eq_of_mul_eq_mul_right hp;rw[←h,hk,Nat.pow_add,Nat.mul_assoc,Nat.mul_comm (10^k)]
 have h3:A++List.replicate k 48=B:=by
  refine qne _ _ (by simp[hk]) ?_ hB h2;intro c hc;rw[List.mem_append] at hc;rcases hc with hc|hc
  ·exact hA c hc
  ·rw[(List.mem_replicate.1 hc).2];exact⟨by decide,by decide⟩
 cases k with
 |zero=>simpa using h3
 |succ k=>
  exfalso;refine nB (A++List.replicate k 48) ?_;rw[←h3,List.replicate_succ',←List.append_assoc]
theorem qkB (W T W2 T2:List UInt8) (hT:qaK T) (hT2:qaK T2) (cW:W=Lib.decDigits (qak W)) (cW2:W2=Lib.decDigits (qak W2)) (nT: ∀m,T≠m++[48]) (nT2: ∀m,T2≠m++[48])
 (h:qak (W++T)*10^T2.length=qak (W2++T2)*10^T.length):W=W2∧T=T2:=by
 have l1:=qcJ T hT;have l2:=qcJ T2 hT2;have p1:0<10^T.length:=Nat.pow_pos (by decide);have p2:0<10^T2.length:=Nat.pow_pos (by decide);rw[qay,qay,Nat.add_mul,Nat.add_mul] at h;have m1:qak T*10^T2.length<10^T.length*10^T2.length:=Nat.mul_lt_mul_of_pos_right l1 p2;have m2:qak T2*10^T.length<10^T.length*10^T2.length:=by rw[Nat.mul_comm (10^T.length)];exact Nat.mul_lt_mul_of_pos_right l2 p1
 rw[Nat.mul_assoc,Nat.mul_assoc,Nat.mul_comm (10^T2.length) (10^T.length)] at h
 have hw:qak W=qak W2:=by
  generalize 10^T.length*10^T2.length=Q at*;rcases Nat.lt_trichotomy (qak W) (qak W2)with g|g|g
  ·have:(qak W+1)*Q≤qak W2*Q:=Nat.mul_le_mul_right _ g;rw[Nat.add_mul] at this;omega
  ·exact g
  ·have:(qak W2+1)*Q≤qak W*Q:=Nat.mul_le_mul_right _ g;rw[Nat.add_mul] at this;omega
 refine⟨by rw[cW,cW2,hw],?_⟩;rw[hw] at h;have h2:qak T*10^T2.length=qak T2*10^T.length:=by omega
 rcases Nat.le_total T.length T2.length with g|g
 ·exact qgX T T2 hT hT2 h2 nT2 g
 ·exact(qgX T2 T hT2 hT h2.symm nT g).symm
def qhn (n:Nat) (P:List UInt8):List UInt8:=List.replicate (1+n - P.length) 48++P
theorem qhV (n:Nat) (P:List UInt8):1+n≤(qhn n P).length:=by unfold qhn;rw[List.length_append,List.length_replicate];omega
def T2_ (n:Nat):Nat:=2^n
theorem qmN (s:Bool) (r n:Nat) (hr:r<INF) (he:ex r+n=1075) (Q:List UInt8) (hQ:Q=qhn n ((dle (fr r*5^n)).reverse)):
 (if s then [45] else [])++(Q.take (Q.length - n)++(if Lib.trimRightB (Q.drop (Q.length - n)) 48=[] then [] else 46::Lib.trimRightB (Q.drop (Q.length - n)) 48))=qao (sgw s+r):=by
 obtain⟨W,T,hX,hW,hT,hW0,hv,hTl,hlen,hA,cW,nT⟩:=qd0 s r hr
 have hPd:qaK (dle (fr r*5^n)).reverse∧qak (dle (fr r*5^n)).reverse=fr r*5^n∧((dle (fr r*5^n)).reverse=[]∨ ∃c t,(dle (fr r*5^n)).reverse=c::t∧c≠48):=by
  rcases Nat.eq_zero_or_pos (fr r*5^n)with e|e
  ·rw[e,qdP];exact⟨(fun c hc=>by cases hc),rfl,.inl rfl⟩
  ·rw[qfv _ e];exact⟨qcs _,qbY _,.inr (qmj _ e)⟩
 obtain⟨hP,hPv,hPh⟩:=hPd;generalize (dle (fr r*5^n)).reverse=P at*
 have hQd:qaK Q:=by
  rw[hQ];unfold qhn;intro c hc;rw[List.mem_append] at hc;rcases hc with hc|hc
  ·rw[(List.mem_replicate.1 hc).2];exact⟨by decide,by decide⟩
  ·exact hP c hc
 have hQv:qak Q=fr r*5^n:=by
  rw[hQ];unfold qhn;rw[qay,qcf _ (fun c hc=>(List.mem_replicate.1 hc).2),Nat.zero_mul,Nat.zero_add,hPv]
 have hQl:1+n≤Q.length:=by rw[hQ];exact qhV n P
 have eQ:Q=Q.take (Q.length - n)++Q.drop (Q.length - n):=(List.take_append_drop _ _).symm;obtain⟨d1,d2⟩:=qbS (eQ▸hQd);have hdl:(Q.drop (Q.length - n)).length=n:=by rw[List.length_drop];omega
 obtain⟨Z,hZ1,hZ2⟩:=qeb (Q.drop (Q.length - n));obtain⟨T2,hT2⟩: ∃T2,T2=Lib.trimRightB (Q.drop (Q.length - n)) 48:=⟨_,rfl⟩;rw[←hT2] at hZ1⊢;obtain⟨W2,hW2⟩: ∃W2,W2=Q.take (Q.length - n):=⟨_,rfl⟩;rw[←hW2] at d1⊢;have hT2d:qaK T2:=(qbS (hZ1▸d2)).1;have hlz:T2.length+Z.length=n:=by rw[←List.length_append,←hZ1];exact hdl
 have hval2:qak (W2++T2)*10^Z.length=fr r*5^n:=by
  have:qak Q=qak W2*10^n+qak (Q.drop (Q.length - n)):=by
   conv=>lhs;rw[eQ]
   rw[qay,hdl,←hW2]
  rw[qay,Nat.add_mul,Nat.mul_assoc,←Nat.pow_add,hlz,←hQv,this,hZ1,qay,qcf Z hZ2,Nat.add_zero]
 have cW2:W2=Lib.decDigits (qak W2):=by
  refine canon _ W2 rfl d1 ?_ ?_
  ·intro e;have:=congrArg List.length hW2;rw[e,List.length_take] at this;simp at this;omega
  ·by_cases g:P.length<1+n
   ·right;have:Q.length=1+n:=by rw[hQ];unfold qhn;rw[List.length_append,List.length_replicate];omega
    rw[hW2,List.length_take];omega
   ·left;have hQP:Q=P:=by rw[hQ];unfold qhn;rw[show 1+n - P.length=0 by omega];rfl
    rcases hPh with e|⟨c,t,e,hc⟩
    ·rw[e] at g;simp at g
    ·rw[hW2,hQP,e];intro e2;have hk:0<(c::t).length - n:=by rw[←e];omega
     obtain⟨k,hk2⟩: ∃k,(c::t).length - n=k+1:=⟨(c::t).length - n - 1,by omega⟩;rw[hk2] at e2;simp at e2;exact hc e2
 have key:qak (W++T)*10^T2.length=qak (W2++T2)*10^T.length:=by
  have hz:0<10^Z.length*UU:=Nat.mul_pos (Nat.pow_pos (by decide)) qlE;apply Nat.eq_of_mul_eq_mul_right hz;have e1:qak (W++T)*10^T2.length*(10^Z.length*UU)=qak (W++T)*UU*10^(T2.length+Z.length):=by rw[Nat.pow_add];generalize UU=U;ac_rfl
  have e2:qak (W2++T2)*10^T.length*(10^Z.length*UU)=qak (W2++T2)*10^Z.length*(10^T.length*UU):=by generalize UU=U;ac_rfl
  rw[e1,e2,hv,hval2,hlz,qtl];have e3:(10:Nat)^n=T2_ n*5^n:=by unfold T2_;rw[←Nat.mul_pow]
  have e4:Go.Proofs.YtdeimnnpcfncpaaGreatDoor.T2 (ex r - 1)*T2_ n=UU:=by
   unfold T2_;rw[qmO,show(2:Nat)^n=Go.Proofs.YtdeimnnpcfncpaaGreatDoor.T2 n from rfl,qla]
   exact congrArg _ (by have:1≤ex r:=by unfold ex;split<;>omega
                        omega)
  rw[e3,←e4];generalize Go.Proofs.YtdeimnnpcfncpaaGreatDoor.T2 (ex r - 1)=A;generalize T2_ n=B
  ac_rfl
 obtain⟨q1,q2⟩:=qkB W T W2 T2 hT hT2d cW cW2 nT (fun m=>by rw[hT2];exact qeY _ m) key;rw[hX,q1,q2]
theorem qk5 (x k:Nat) (h0:0<k) (h:x<T10 k):(dle x).length≤k:=by
 rcases Nat.eq_zero_or_pos x with e|e
 ·rw[e,qdP];exact Nat.zero_le _
 ·rw[←List.length_reverse,qfv x e];exact qii k x h0 h
theorem qsc:T24=T16 64:=by unfold T24 T16;decide+kernel
theorem qtP:T5 1074<T16 160:=by unfold T5 T16;decide+kernel
theorem qhw (s:Bool) (r:Nat) (hr:r<9223372036854775808):((sgw s+r:Nat):Int)/9223372036854775808=(if s then 1 else 0)∧((sgw s+r:Nat):Int)%9223372036854775808=(r:Int):=by
 cases s<;>simp only[sgw,Bool.false_eq_true,if_false,if_true]<;>omega
theorem ql3 (s:Bool) (r:Nat) (hr:r<INF) (n:Nat) (he:ex r=1075+n) (w:World):
 Calls Tryz.prog 147 #[.int .u64 ((sgw s+r:Nat):Int)] w fun e w'=>e= .returned (.string (BS (qao (sgw s+r))))∧Below w.heap.size w w':=by
 have hI:INF=9218868437227405312:=rfl;obtain⟨s1,s2⟩:=qhw s r (by omega);obtain⟨k4,k3⟩:=qdQ s r hr;obtain⟨v,hv⟩: ∃v,v=sgw s+r:=⟨_,rfl⟩;have hvb:v<18446744073709551616:=by rw[hv];cases s<;>simp only[sgw,Bool.false_eq_true,if_false,if_true]<;>omega
 rw[←hv] at s1 s2 k4 k3⊢;have ck:=Lh (fun W=>qda v hvb W);have cp:=fun W=>qeQ r (by omega) W
 rw[he,show(((1075+n:Nat)):Int) - 1075=(n:Int) by omega] at cp;replace cp:=Lh cp;have hf:=qpP r
 have hf0:0<fr r:=by
  unfold fr ex at*
  split at he
  ·omega
  ·rename_i h;rw[if_neg h];omega
 obtain⟨f,hfe⟩: ∃f,f=fr r:=⟨_,rfl⟩
 have hX:V r=f*2^n*UU:=by
  rw[qtl,he,←hfe,show 1075+n - 1=1074+n by omega,←qla,←qmO];show f*(UU*T2 n)=f*T2 n*UU;generalize UU=U;ac_rfl
 have hex:=qiY s r (f*2^n) hr hX;rw[←hv] at hex;obtain⟨X,hXe⟩: ∃X,X=f*2^n:=⟨_,rfl⟩;have hX0:0<X:=by rw[hXe];exact Nat.mul_pos (by omega) (Nat.two_pow_pos _)
 have hXb:X<T24:=by
  have h1:=qkQ hr;rw[qpD,hX,←hXe] at h1;exact Nat.lt_of_mul_lt_mul_right h1
 have hbl:(bg X).length≤1000:=Nat.le_trans (qhK 64 X (by rw[←qsc];exact hXb)) (by decide);have hdl:(dle X).length≤311:=qk5 X 311 (by decide) (Nat.lt_of_lt_of_le hXb qkj);have hfl:(bg f).length≤4:=qeW 4 f (by rw[hfe];exact Nat.lt_trans hf (by decide));have hnb:n≤2000:=by unfold ex at he;split at he<;>omega
 have cs:=Lh (fun W=>qf4 f (by rw[hfe];omega) W);have cm:=Lh (fun a c W hN=>qjN a c f n hnb (by omega) (by rw[hfe];exact hf0) W hN);rw[←hXe] at cm;have cd:=Lh (fun a c W hN=>qer a c X hbl (by omega) W hN);rw[qfv X hX0] at cd;rw[←hfe] at cp;obtain⟨D,hD⟩: ∃D,D=Lib.decDigits X:=⟨_,rfl⟩;have hDl:D.length≤311:=by rw[hD,←qfv X hX0,List.length_reverse];exact hdl
 rw[←hD] at cd;rw[←hXe,←hD] at hex;have hexh:=Lh hex;have u3:((kindN v:Int)==3)=false:=by simp;omega
 have u4:((kindN v:Int)==4)=false:=by simp;omega
 unfold qrv at cs cm;clear hex hX hXe hf hf0 hfe he hD hXb hbl hfl hX0 k3 k4 hv;go_enter Tryz.func147,Tryz.ntmps147;go_upto_if 11 with (fail)
 go_cut [3] (fun s3 wx=>s3= .string (BS (if s then [45] else []))∧w=wx)
 case first=>
  cases s
  ·have q1:(v:Int)/9223372036854775808=0:=s1;clear s1;go_wp2_with fail;go_meet;exact⟨rfl,rfl⟩
  ·have q1:(v:Int)/9223372036854775808=1:=s1;clear s1;go_wp2_with fail;go_meet;exact⟨rfl,rfl⟩
 case rest=>
  obtain⟨rfl,rfl⟩:=hcut;obtain⟨G,hG⟩: ∃G:List UInt8,Hid (G=if s then [45] else []):=⟨_,Lh rfl⟩;rw[←hG.out];have hGl:G.length≤1:=by rw[hG.out];split<;>simp
  have hGs:=qac G;clear s1;go_wp2_with fail;refine(ck.out _).mono ?_;rintro e w1 ⟨rfl,rfl⟩;go_wp2_with fail;refine(ck.out _).mono ?_;rintro e w1 ⟨rfl,rfl⟩;go_wp2_with fail;refine(cp.out _).mono ?_;rintro e w1 ⟨rfl,rfl⟩;clear cp ck u3 u4;go_wp2_with fail;refine(cs.out _).mono ?_;rintro e w1 ⟨a1,c1,rfl,hN1,hb⟩;have B:=Lh hb;obtain⟨L1,hL1⟩: ∃L,Hid (L=(bg f).length):=⟨_,Lh rfl⟩;have cm2:=cm.out a1 c1 w1 hN1;rw[←hL1.out] at cm2⊢;replace cm2:=Lh cm2;clear cs hb hN1 cm;go_wp2_with fail;refine cm2.out.mono ?_;rintro e w2 ⟨a2,c2,rfl,hN2,hb⟩;replace B:=Lh (B.out.trans (hb.mono B.out.size));have cd2:=cd.out a2 c2 w2 hN2;obtain⟨L2,hL2⟩: ∃L,Hid (L=(bg X).length):=⟨_,Lh rfl⟩;rw[←hL2.out] at cd2⊢;replace cd2:=Lh cd2;clear cm2 hb hN2 cd;go_wp2_with fail;refine cd2.out.mono ?_;rintro e w3 ⟨v3,rfl,hO,hb⟩;replace B:=Lh (B.out.trans (hb.mono B.out.size));obtain⟨a3,c3,rfl⟩:=qe1 hO;have hc:(convert 78 9 (.slice a3 (dle X).length c3)).run Tryz.prog w3= .ok (.string (BS D)) w3:=qdd (P:=Tryz.prog) Tryz.underlying78 Tryz.underlying5 Tryz.underlying9 hO;have hDs:=qac D;have cat:=qaY G D;obtain⟨L3,hL3⟩: ∃L,Hid (L=(dle X).length):=⟨_,Lh rfl⟩;rw[←hL3.out] at hc⊢;clear cd2 hb hO hdl;go_wp2_with fail;go_ret;exact⟨Eq.trans (b:=Ending.returned (.string (BS (G++D)))) rfl (by rw[hG.out,hexh.out]),B.out⟩
theorem qi9 (m:List UInt8):Lib.trimRightB (m++[48]) 48=Lib.trimRightB m 48:=by
 unfold Lib.trimRightB;rw[List.reverse_append];rfl
theorem qjt (m:List UInt8) (c:UInt8) (h:c≠48):Lib.trimRightB (m++[c]) 48=m++[c]:=by
 unfold Lib.trimRightB;rw[List.reverse_append];show((c::m.reverse).dropWhile (· ==48)).reverse=_;rw[List.dropWhile_cons,if_neg (by simpa using h)];simp
theorem qjv (l:List UInt8) (k:Nat) (h:k<l.length):l.take (k+1)=l.take k++[l.getD k 0]:=by
 rw[List.take_add_one,List.getElem?_eq_getElem h,List.getD_eq_getElem?_getD,List.getElem?_eq_getElem h];rfl
theorem qkv (s:Bool) (r:Nat) (hr:r<INF) (n:Nat) (he:ex r+n=1075) (hn1:1≤n) (w:World):
 Calls Tryz.prog 147 #[.int .u64 ((sgw s+r:Nat):Int)] w fun e w'=>e= .returned (.string (BS (qao (sgw s+r))))∧Below w.heap.size w w':=by
 have hI:INF=9218868437227405312:=rfl;obtain⟨s1,s2⟩:=qhw s r (by omega);obtain⟨k4,k3⟩:=qdQ s r hr;have hex:=qmN s r n hr he _ rfl;obtain⟨v,hv⟩: ∃v,v=sgw s+r:=⟨_,rfl⟩;have hvb:v<18446744073709551616:=by rw[hv];cases s<;>simp only[sgw,Bool.false_eq_true,if_false,if_true]<;>omega
 rw[←hv] at s1 s2 k4 k3 hex⊢;have ck:=Lh (fun W=>qda v hvb W);have cp:=fun W=>qeQ r (by omega) W
 have hnb:n≤1074:=by have:1≤ex r:=by unfold ex;split<;>omega
                     omega
 rw[show(ex r:Int) - 1075= -(n:Int) by omega] at cp;have hf:=qpP r;obtain⟨f,hfe⟩: ∃f,f=fr r:=⟨_,rfl⟩;rw[←hfe] at cp hf hex;replace cp:=Lh cp;obtain⟨X,hX⟩: ∃X,X=f*5^n:=⟨_,rfl⟩;rw[←hX] at hex
 have hXb:X<T10 767:=by
  have h1:X≤f*T5 1074:=by rw[hX];exact Nat.mul_le_mul_left _ (qhf hnb)
  have h2:f*T5 1074<9007199254740992*T5 1074:=Nat.mul_lt_mul_of_pos_right hf (qo0 _);exact Nat.lt_of_le_of_lt h1 (Nat.lt_of_lt_of_le h2 qkm)
 have hbl:(bg X).length≤1000:=Nat.le_trans (qhK 160 X (Nat.lt_trans hXb qpQ)) (by decide);have hdl:(dle X).length≤767:=qk5 X 767 (by decide) hXb;have hfl:(bg f).length≤4:=qeW 4 f (Nat.lt_trans hf (by decide));have hpl:(bg (5^n)).length≤1000:=Nat.le_trans (qhK 160 (5^n) (Nat.lt_of_le_of_lt (qhf hnb) qtP)) (by decide);have cs:=Lh (fun W=>qf4 f (by omega) W);have cw:=Lh (fun W=>qkP 5 n (by decide) (by omega) W);have cm:=Lh (fun a1 a2 c1 c2 W h1 h2=>qhE a1 a2 c1 c2 f (5^n) (by omega) hpl W h1 h2);rw[←hX] at cm;have cd:=Lh (fun a c W hN=>qer a c X hbl (by omega) W hN);obtain⟨P,hP⟩: ∃P,P=(dle X).reverse:=⟨_,rfl⟩;have hPl:P.length=(dle X).length:=by rw[hP,List.length_reverse]
 rw[←hP] at cd hex;obtain⟨pl,hpl2⟩: ∃pl,pl=P.length:=⟨_,rfl⟩;rw[←hPl,←hpl2] at cd;have hplb:pl≤767:=by omega
 have hexh:=Lh hex;have u3:((kindN v:Int)==3)=false:=by simp;omega
 have u4:((kindN v:Int)==4)=false:=by simp;omega
 have ng:decide ((0:Int)≤ -(n:Int))=false:=dF (by omega);unfold qrv at cs cw cm;obtain⟨L5,hL5⟩: ∃L,Hid (L=(bg (5^n)).length):=⟨_,Lh rfl⟩;obtain⟨L1,hL1⟩: ∃L,Hid (L=(bg f).length):=⟨_,Lh rfl⟩;obtain⟨L2,hL2⟩: ∃L,Hid (L=(bg X).length):=⟨_,Lh rfl⟩;rw[←hL5.out] at cw;rw[←hL1.out] at cs;rw[←hL5.out,←hL1.out,←hL2.out] at cm;rw[←hL2.out] at cd;replace hpl2:=Lh hpl2;clear hex hX hf hfe hP hXb hbl hfl k3 k4 hv he hdl hpl hPl;go_enter Tryz.func147,Tryz.ntmps147;go_upto_if 11 with (fail)
 go_cut [3] (fun s3 wx=>s3= .string (BS (if s then [45] else []))∧w=wx)
 case first=>
  cases s
  ·have q1:(v:Int)/9223372036854775808=0:=s1;clear s1;go_wp2_with fail;go_meet;exact⟨rfl,rfl⟩
  ·have q1:(v:Int)/9223372036854775808=1:=s1;clear s1;go_wp2_with fail;go_meet;exact⟨rfl,rfl⟩
 case rest=>
  obtain⟨rfl,rfl⟩:=hcut;obtain⟨G,hG⟩: ∃G:List UInt8,Hid (G=if s then [45] else []):=⟨_,Lh rfl⟩;rw[←hG.out];have hGl:G.length≤1:=by rw[hG.out];split<;>simp
  have hGs:=qac G;clear s1;go_wp2_with fail;refine(ck.out _).mono ?_;rintro e w1 ⟨rfl,rfl⟩;go_wp2_with fail;refine(ck.out _).mono ?_;rintro e w1 ⟨rfl,rfl⟩;go_wp2_with fail;refine(cp.out _).mono ?_;rintro e w1 ⟨rfl,rfl⟩;clear cp ck u3 u4;go_wp2_with fail;refine(cs.out _).mono ?_;rintro e w1 ⟨a1,c1,rfl,hN1,hb⟩;have B:=Lh hb;replace hN1:=Lh hN1;clear cs hb;go_wp2_with fail;refine(cw.out _).mono ?_;rintro e w2 ⟨a2,c2,rfl,hN2,hb⟩;replace B:=Lh (B.out.trans (hb.mono B.out.size));have cm2:=Lh (cm.out a1 a2 c1 c2 w2 (hN1.out.on hb) hN2);clear cw hb hN2 hN1 cm;go_wp2_with fail;refine cm2.out.mono ?_;rintro e w3 ⟨a3,c3,rfl,hN3,hb⟩;replace B:=Lh (B.out.trans (hb.mono B.out.size));have cd2:=Lh (cd.out a3 c3 w3 hN3);clear cm2 hb hN3 cd;go_wp2_with fail;refine cd2.out.mono ?_;rintro e w4 ⟨v4,rfl,hO,hb⟩;have hBs3:=B.out.size
  have hO4:Hid (w4.ownsRow w.heap.size 5 1 v4 pl (P.map qax)):=Lh (by
   refine⟨hO.1,?_⟩;rcases hO.2 with q|⟨g,cap,cur,q1,q2,q3⟩
   ·exact .inl q
   ·exact .inr ⟨g,cap,cur,q1,Nat.le_trans hBs3 q2,q3⟩)
  replace B:=Lh (B.out.trans (hb.mono B.out.size));clear cd2 hb hO hBs3;go_upto_block 0 with (fail)
  go_cut [6] (fun s6 wx=>Hid (wx.ownsRow w.heap.size 5 1 s6 (qhn n P).length ((qhn n P).map qax))∧Hid (Below w.heap.size w wx))
  case first=>
   clear hexh hGs hGl;go_wp2_with fail;go_loopg [6] (n+2) (fun gk s6 wx=> ∃(k L:Nat) (R:List UInt8),(1+n - pl) - k<gk∧k≤1+n - pl∧Hid (R=List.replicate k 48++P)∧L=k+pl∧Hid (wx.ownsRow w.heap.size 5 1 s6 L (R.map qax))∧Hid (Below w.heap.size w wx))
   case atStart=>exact⟨0,pl,P,by omega,by omega,Lh rfl,by omega,hO4,B⟩
   case round=>
    clear hO4 B;obtain⟨k,L,R,hgk,hk,hR,hL,I,B⟩:=hrel;obtain⟨a6,c6,rfl⟩:=qe1 I.out;have hLb:L≤2000:=by omega
    by_cases hlt:L<1+n
    ·have t1:decide ((L:Int)<1+(n:Int))=true:=dT (by omega);have t1':decide (L<1+n)=true:=dT hlt;have hBs:=B.out.size;have hRl:R.length=L:=by have:=I.out.1;rw[List.length_map,Nat.mul_one] at this;exact this
     have hR2:Hid (48::R=List.replicate (k+1) 48++P):=Lh (by rw[hR.out];rfl);obtain⟨i5,hi5,hz0,hz1,hz2⟩:=info_parts info5;have hrow1:(wr.alloc (.cells #[.int .u8 48] 5)).ownsRow w.heap.size 5 1 (.slice (some ⟨wr.heap.size,0,none⟩) 1 1) 1 [.int .u8 48]:=row_one w.heap.size wr (.int .u8 48) hBs;have hal:Below wr.heap.size wr (wr.alloc (.cells #[.int .u8 48] 5)):=(Below.refl _ _).alloc (Nat.le_refl _) _;rcases I.out.2 with ⟨q1,q2⟩|⟨g,cap,cur,q1,q2,q3,q4,q5,q6,q7⟩
     ·obtain⟨rfl,_,rfl⟩:=(Value.slice.injEq ..).mp q1;have hR0:R=[]:=List.eq_nil_of_length_eq_zero (by omega);subst q2;have hk1:=Lh (show k+1≤1+n - pl∧(1+n - pl) - (k+1)<gk - 1∧1=k+1+pl∧gk - 1<gk by omega);clear hL hgk hk;have hown3:Hid ((wr.alloc (.cells #[.int .u8 48] 5)).ownsRow w.heap.size 5 1 (.slice (some ⟨wr.heap.size,0,none⟩) 1 1) 1 ((48::R).map qax)):=Lh (by rw[hR0];exact hrow1);have B3:=Lh (B.out.trans (hal.mono hBs));clear I B hal q1;go_wp2_with (at_builtin;go_must (refine wpList_append_own_none rfl (.tmp 48) (.tmp 49) 78 rfl w.heap.size 5 i5 1 Tryz.underlying78 hi5 (.slice (some ⟨wr.heap.size,0,none⟩) 1 1) 1 [.int .u8 48] rfl hrow1 rfl ?_));go_roundg (gk - 1)
      case measure=>exact hk1.out.2.2.2
      case rel=>exact⟨k+1,1,48::R,hk1.out.2.1,hk1.out.1,hR2,hk1.out.2.2.1,hown3,B3⟩
     ·obtain⟨rfl,_,rfl⟩:=(Value.slice.injEq ..).mp q1
      have hnews: ∀j u,(R.map qax)[j]?=some u→(wr.alloc (.cells #[.int .u8 48] 5)).cell? ((⟨g,0,none⟩:Addr).add j)=some u:=by
       intro j u hj
       have hj':j<R.length:=by
        have:=(List.getElem?_eq_some_iff.1 hj).1;simpa using this
       rw[show(⟨g,0,none⟩:Addr).add j=⟨g,j,none⟩ by simp[Addr.add];omega,hal.cell (p:=⟨g,j,none⟩) (Array.getElem?_eq_some_iff.1 q3).1,I.out.cellAt j (by omega)];exact hj
      have hone: ∀u∈R.map qax,u.oneCell'=true:=qiJ;clear q1 q2 q3 q4 q5 q6 q7;go_wp2_with (at_builtin;go_must (refine wpList_append_own _ rfl (.tmp 48) (.tmp 49) 78 rfl w.heap.size 5 i5 (.int .u8 0) 1 1 Tryz.underlying78 hi5 hz0 hz1 hz2 rfl (by decide) (.slice (some ⟨wr.heap.size,0,none⟩) 1 1) 1 [.int .u8 48] rfl hrow1 ⟨g,0,none⟩ L c6 (R.map qax) rfl (by rw[List.length_map,hRl,Nat.mul_one]) hnews hone (by unfold maxLen;omega) (by omega) (Nat.le_trans hBs (by simp)) ?_);rintro v2 w3 hown2' hgr -;have hown2:=Lh hown2';have hgrh:=Lh hgr;clear hown2' hgr);obtain⟨a7,c7,rfl⟩:=qe1 hown2.out;have hown3:Hid (w3.ownsRow w.heap.size 5 1 (.slice a7 (1+L) c7) (1+L) ((48::R).map qax)):=Lh hown2.out
      have B3:Hid (Below w.heap.size w w3):=Lh ((B.out.trans (hal.mono hBs)).grown hgrh.out (Nat.le_trans hBs (by simp)) (fun k e=>by
       have e':some wr.heap.size=some k:=e
       cases e';exact hBs))
      clear I B hal hown2 hgrh hnews hrow1;go_wp2_with fail;go_roundg (gk - 1)
      case measure=>omega
      case rel=>exact⟨k+1,1+L,48::R,by omega,by omega,hR2,by omega,hown3,B3⟩
    ·have t1:decide ((L:Int)<1+(n:Int))=false:=dF (by omega);have t1':decide (L<1+n)=false:=dF hlt
     have hfin:Hid (wr.ownsRow w.heap.size 5 1 (.slice a6 L c6) (qhn n P).length ((qhn n P).map qax)):=Lh (by
      have e:R=qhn n P:=by
       rw[hR.out];unfold qhn;rw[show k=1+n - P.length by rw[←hpl2.out];omega]
      have hRl:R.length=L:=by have:=I.out.1;rw[List.length_map,Nat.mul_one] at this;exact this
      rw[←e,hRl];exact I.out)
     clear I;go_wp2_with fail;go_meet;exact⟨hfin,B⟩
  case rest=>
   clear hO4 B;obtain⟨I,B⟩:=hcut;obtain⟨wo,hwo⟩: ∃wo,wo=wc:=⟨_,rfl⟩;subst hwo;obtain⟨Q,hQ⟩: ∃Q,Hid (Q=qhn n P):=⟨_,Lh rfl⟩;have hQl:1+n≤Q.length:=by rw[hQ.out];exact qhV n P
   have hQb:Q.length≤2000:=by rw[hQ.out];unfold qhn;rw[List.length_append,List.length_replicate,←hpl2.out];omega
   rw[←hQ.out] at I;obtain⟨N,hN⟩: ∃N,N=Q.length:=⟨_,rfl⟩;rw[←hN] at I hQl hQb;obtain⟨g,cap,rfl⟩:=qgn I.out (by omega)
   have hcapb:N≤cap:=by
    rcases I.out.2 with ⟨q1,_⟩|⟨g',cap',cur,q1,q2,q3,q4,q5⟩
    ·cases q1
    ·cases q1;exact q4
   have hcapm:cap≤maxLen:=by
    rcases I.out.2 with ⟨q1,_⟩|⟨g',cap',cur,q1,q2,q3,q4,q5,q6⟩
    ·cases q1
    ·cases q1;exact q5
   have hRT:=qaF.of_own I.out;have pw:=hRT.piece hN 0 (N - n) (by omega) 0 cap (.inl rfl)
   have hat:Hid (∀j,j<n→ ∀W,Below wo.heap.size wo W→W.cell? ⟨g,N - n+j,none⟩=some (.int .u8 (((Q.drop (N - n)).getD j 0).toNat:Int))):=Lh (fun j hj W hW=>by
    rw[hW.cell (p:=⟨g,N - n+j,none⟩) (by
     rcases I.out.2 with ⟨q1,_⟩|⟨g',cap',cur,q1,q2,q3,q4⟩
     ·cases q1
     ·cases q1;exact(Array.getElem?_eq_some_iff.1 q3).1),I.out.cellAt (N - n+j) (by omega),List.getElem?_map,List.getElem?_eq_getElem (by omega),List.getD_eq_getElem?_getD,List.getElem?_drop,List.getElem?_eq_getElem (by omega)]
    rfl)
   have e1:(N:Int)+ -(n:Int)=((N - n:Nat):Int):=by omega
   have e2:((N:Int)+ -(n:Int)).toNat=N - n:=by omega
   have hNh:=Lh hN;clear hN hRT;have hne: ¬cap=N - n:=by omega
   go_upto_region 16 with (fail)
   go_quiet (fail);go_upto_block 2 with (fail)
   rw[show N - (N - n)=n by omega];obtain⟨Tp,hTp⟩: ∃Tp,Hid (Tp=Q.drop (N - n)):=⟨_,Lh rfl⟩;have hTl:Hid (Tp.length=n):=Lh (by rw[hTp.out,List.length_drop,←hNh.out];omega);rw[←hTp.out] at hat;clear pw;go_cut [8] (fun s8 wx=> ∃k,s8= .slice (some ⟨g,N - n,none⟩) k (cap - (N - n))∧k≤n∧Hid (Tp.take k=Lib.trimRightB Tp 48)∧Hid (Below wo.heap.size wo wx))
   case first=>
    go_wp2_with fail;go_loopg [8] (n+1) (fun gk s8 wx=> ∃k,k<gk∧k≤n∧s8= .slice (some ⟨g,N - n,none⟩) k (cap - (N - n))∧Hid (Lib.trimRightB (Tp.take k) 48=Lib.trimRightB Tp 48)∧Hid (Below wo.heap.size wo wx))
    case atStart=>exact⟨n,by omega,by omega,rfl,Lh (by rw[←hTl.out,List.take_length]),Lh (qjQ (Below.refl _ _) _)⟩
    case round=>
     obtain⟨k,hgk,hk,rfl,hT,hbx⟩:=hrel
     by_cases h0:k=0
     ·subst h0;have hT2:Hid (Tp.take 0=Lib.trimRightB Tp 48):=Lh (by rw[←hT.out];rfl);clear hT hat;go_wp2_with fail;go_meet;exact⟨0,rfl,by omega,hT2,hbx⟩
     ·obtain⟨j,rfl⟩: ∃j,k=j+1:=⟨k - 1,by omega⟩;have u1:decide ((0:Int)<((j+1:Nat):Int))=true:=dT (by omega);have hsn:=qjv Tp j (by rw[hTl.out];omega);have hcell:=hat.out j (by omega) wr hbx.out;have x1:((j+1:Nat):Int) - 1=(j:Int):=by omega
      by_cases hz:Tp.getD j 0=48
      ·rw[hz] at hcell hsn;have hcell2:wr.cell? ⟨g,N - n+j,none⟩=some (.int .u8 48):=hcell;have hT2:Hid (Lib.trimRightB (Tp.take j) 48=Lib.trimRightB Tp 48):=Lh (by rw[←hT.out,hsn,qi9]);clear hT hsn hz hcell;go_wp2_with fail;go_roundg (gk - 1)
       case measure=>omega
       case rel=>exact⟨j,by omega,by omega,rfl,hT2,hbx⟩
      ·have hT2:Hid (Tp.take (j+1)=Lib.trimRightB Tp 48):=Lh (by rw[←hT.out,hsn,qjt _ _ hz]);obtain⟨x,hx⟩: ∃x,x=(Tp.getD j 0).toNat:=⟨_,rfl⟩;have hx48:x≠48:=fun e=>hz (qtr (by rw[←hx];exact e))
       rw[←hx] at hcell;have u2:((x:Int)==48)=false:=beq_eq_false_iff_ne.2 (by omega);replace hx:=Lh hx;clear hT hsn hz;go_wp2_with fail;go_meet;exact⟨j+1,rfl,hk,hT2,hbx⟩
   case rest=>
    obtain⟨k,rfl,hk,hT,hbx⟩:=hcut
    have hgw:g<wo.heap.size:=by
     rcases I.out.2 with ⟨q1,_⟩|⟨g',cap',cur,q1,q2,q3,q4⟩
     ·cases q1
     ·cases q1;exact(Array.getElem?_eq_some_iff.1 q3).1
    have I2:wc.ownsRow w.heap.size 5 1 (.slice (some ⟨g,0,none⟩) N cap) N (Q.map qax):=by
     rcases I.out.2 with ⟨q1,q2⟩|⟨g',cap',cur,q1,q2,q3,q4⟩
     ·cases q1
     ·refine⟨I.out.1,.inr ⟨g',cap',cur,q1,q2,?_,q4⟩⟩;have e:g'=g:=by cases q1;rfl
      rw[hbx.out.block g' (by rw[e];exact hgw)];exact q3
    have hRT2:=qaF.of_own I2;have pw:=hRT2.piece hNh.out 0 (N - n) (by rw[←hNh.out];omega) 0 cap (.inl rfl);have pb:=hRT2.piece hNh.out (N - n) k (by rw[←hNh.out];omega) (N - n) (cap - (N - n)) (.inl rfl);have B2:Hid (Below w.heap.size w wc):=Lh (B.out.trans (hbx.out.mono B.out.size));rw[List.drop_zero] at pw;rw[←hTp.out,hT.out] at pb;obtain⟨A,hA⟩: ∃A,A=Q.take (N - n):=⟨_,rfl⟩;obtain⟨E,hE⟩: ∃E,E=Lib.trimRightB Tp 48:=⟨_,rfl⟩;rw[←hA] at pw;rw[←hE] at pb;have hEk:E.length=k:=by rw[hE,←hT.out,List.length_take,hTl.out];omega
    have hAl:A.length≤2000:=by rw[hA,List.length_take,←hNh.out];omega
    have hfin:Hid (qao v=G++(A++(if E=[] then [] else 46::E))):=Lh (by
     rw[←hexh.out,←hQ.out,←hG.out,←hNh.out,←hTp.out,←hA,←hE])
    have hAs:=qac A;have hEs:=qac E;have pw':(convert 78 9 (.slice (some ⟨g,0,none⟩) (N - n) cap)).run Tryz.prog wc= .ok (.string (BS A)) wc:=pw;have pb':(convert 78 9 (.slice (some ⟨g,N - n,none⟩) k (cap - (N - n)))).run Tryz.prog wc= .ok (.string (BS E)) wc:=pb;have cat1:=qaY G A;obtain⟨H1,hH1⟩: ∃H1,H1=G++A:=⟨_,rfl⟩;have hH1s:=qac H1;have hH1l:H1.length≤2001:=by rw[hH1,List.length_append];omega
    rw[←hH1] at cat1;have hfin2:Hid (qao v=H1++(if E=[] then [] else 46::E)):=Lh (by rw[hfin.out,hH1,List.append_assoc]);clear pw pb hRT2 I2 hA hE hT hat hTp hTl hfin hexh hbx hH1 hgw I B
    by_cases h0:k=0
    ·subst h0;have hE0:E=[]:=List.eq_nil_of_length_eq_zero hEk;have hfin3:Hid (qao v=H1):=Lh (by rw[hfin2.out,if_pos hE0,List.append_nil]);clear hfin2 hE0 hEk hEs;go_wp2_with fail;go_ret;exact⟨Eq.trans (b:=Ending.returned (.string (BS H1))) rfl (by rw[hfin3.out]),B2.out⟩
    ·have u1:((k:Int)==0)=false:=beq_eq_false_iff_ne.2 (by omega);have hEn:E≠[]:=fun e=>by rw[e] at hEk;exact h0 hEk.symm
     obtain⟨H2,hH2⟩: ∃H2,H2=H1++[46]:=⟨_,rfl⟩;obtain⟨H3,hH3⟩: ∃H3,H3=H2++E:=⟨_,rfl⟩;have cat2:BS H1++(⟨#[46]⟩:ByteArray)=BS H2:=by rw[hH2];exact qaY H1 [46]
     have cat3:BS H2++BS E=BS H3:=by rw[hH3];exact qaY _ _
     have hH2s:=qac H2;have hH2l:H2.length≤2002:=by rw[hH2,List.length_append];simp;omega
     have hfin3:Hid (qao v=H3):=Lh (by rw[hfin2.out,if_neg hEn,hH3,hH2,List.append_assoc];rfl);have hEl:E.length≤2000:=by omega
     have hEkh:=Lh hEk;clear hfin2 hEn hEk hH2 hH3;go_wp2_with fail;go_ret;exact⟨Eq.trans (b:=Ending.returned (.string (BS H3))) rfl (by rw[hfin3.out]),B2.out⟩
theorem qjo (s:Bool) (r:Nat) (hr:r<9223372036854775808) (k:kindN (sgw s+r)=4∨kindN (sgw s+r)=3) (w:World):
 Calls Tryz.prog 147 #[.int .u64 ((sgw s+r:Nat):Int)] w fun e w'=>e= .returned (.string (BS (qao (sgw s+r))))∧w=w':=by
 obtain⟨s1,s2⟩:=qhw s r hr
 have hs:(9223372036854775808≤sgw s+r)=(s=true):=by
  cases s<;>simp only[sgw,Bool.false_eq_true,if_false,if_true,eq_iff_iff,iff_true,iff_false]<;>omega
 unfold qao;simp only[hs];obtain⟨v,hv⟩: ∃v,v=sgw s+r:=⟨_,rfl⟩;have hvb:v<18446744073709551616:=by rw[hv];cases s<;>simp only[sgw,Bool.false_eq_true,if_false,if_true]<;>omega
 rw[←hv] at s1 s2 k⊢;have ck:=fun W=>qda v hvb W
 clear hs hv;rcases k with k|k
 ·rw[k] at ck;rw[if_pos k];replace ck:=Lh ck;clear k;cases s
  ·have q1:(v:Int)/9223372036854775808=0:=s1;clear s1;go_enter Tryz.func147,Tryz.ntmps147;go_wp2_with fail;refine(ck.out _).mono ?_;rintro e w1 ⟨rfl,rfl⟩;go_wp2_with fail;go_ret;exact⟨rfl,rfl⟩
  ·have q1:(v:Int)/9223372036854775808=1:=s1;clear s1;go_enter Tryz.func147,Tryz.ntmps147;go_wp2_with fail;refine(ck.out _).mono ?_;rintro e w1 ⟨rfl,rfl⟩;go_wp2_with fail;go_ret;exact⟨rfl,rfl⟩
 ·rw[k] at ck;rw[if_neg (by omega),if_pos k];replace ck:=Lh ck;clear k;cases s
  ·have q1:(v:Int)/9223372036854775808=0:=s1;clear s1;go_enter Tryz.func147,Tryz.ntmps147;go_wp2_with fail;refine(ck.out _).mono ?_;rintro e w1 ⟨rfl,rfl⟩;go_wp2_with fail;refine(ck.out _).mono ?_;rintro e w1 ⟨rfl,rfl⟩;go_wp2_with fail;go_ret;exact⟨rfl,rfl⟩
  ·have q1:(v:Int)/9223372036854775808=1:=s1;clear s1;go_enter Tryz.func147,Tryz.ntmps147;go_wp2_with fail;refine(ck.out _).mono ?_;rintro e w1 ⟨rfl,rfl⟩;go_wp2_with fail;refine(ck.out _).mono ?_;rintro e w1 ⟨rfl,rfl⟩;go_wp2_with fail;go_ret;exact⟨rfl,rfl⟩
theorem qlt (s:Bool) (r:Nat) (h1:INF≤r) (hr:r<9223372036854775808):kindN (sgw s+r)=4∨kindN (sgw s+r)=3:=by
 have hI:INF=9218868437227405312:=rfl;unfold kindN;rw[if_pos (by cases s<;>simp only[sgw,Bool.false_eq_true,if_false,if_true]<;>omega)]
 split
 ·exact .inr rfl
 ·exact .inl rfl
theorem qjs (v:Nat) (hv:v<18446744073709551616) (w:World):Calls Tryz.prog 147 #[.int .u64 (v:Int)] w fun e w'=>e= .returned (.string (BS (qao v)))∧Below w.heap.size w w':=by
 obtain⟨s,r,rfl,hr,_,_⟩:=qdo v hv
 by_cases h:r<INF
 ·by_cases h2:1075≤ex r
  ·exact ql3 s r h (ex r - 1075) (by omega) w
  ·exact qkv s r h (1075 - ex r) (by omega) (by omega) w
 ·refine(qjo s r hr (qlt s r (by omega) hr) w).mono ?_;rintro e w1 ⟨rfl,rfl⟩;exact⟨rfl,Below.refl _ _⟩
end Go.Proofs.YtdeimnnpcfncpaaGreatDoor
