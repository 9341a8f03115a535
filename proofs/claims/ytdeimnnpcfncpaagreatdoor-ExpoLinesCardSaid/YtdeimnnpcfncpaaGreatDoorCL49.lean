/- Parts of the proof: TC TD. -/
import Derived.Test.YtdeimnnpcfncpaaGreatDoorCL48
set_option linter.unusedVariables false
set_option linter.unusedSimpArgs false
set_option maxRecDepth 100000
set_option maxHeartbeats 64000000
section
namespace Go.Proofs.YtdeimnnpcfncpaaGreatDoor.X
open Go Go.RowKit
theorem expoLines_any (a:Option Addr) (c:Nat) (xs:List Sm) (btw:Nat) (odd:List UInt8) (at':Nat) (hbw:btw<65536) (hat:at'<256) (w:World) (hr:SmRow w (.slice a xs.length c) xs) (hlc:xs.length≤c) (hlm:xs.length≤maxLen) (hG:EGlb w):
 Calls Tryz.prog 10 #[.slice a xs.length c,.int .u16 (btw:Int),.string (BS odd),.int .u8 (at':Int)] w fun e w'=>e= .returned (.bool true)∧Below w.heap.size w w':=by
 have GG:=Lh (fun W (hb:Below w.heap.size w W)=>hG.on hb);have hA:=Lh (qkx w hG);have hall:=Lh (fun W (hb:Below w.heap.size w W)=>qs0 a c xs W (hr.on hb) hlc hlm);obtain⟨n,hn⟩: ∃n,n=xs.length:=⟨_,rfl⟩;rw[←hn] at hall hlc hlm⊢;have hz:=qad odd;obtain⟨j,hj⟩: ∃j:Nat,j=min odd.length 60:=⟨_,rfl⟩;have hjm:min (odd.length:Int) 60=(j:Int):=by omega
 have hjl:j≤odd.length:=by omega
 have hj60:j≤60:=by omega
 have hjc:decide (j≤odd.length)=true:=dT (by omega);clear hj;clear hr hn hG;go_enter Tryz.func10,Tryz.ntmps10;go_wp2_with fail;refine hA.out.mono ?_;rintro e w1 ⟨rfl,B1⟩;replace B1:=Lh B1;clear hA;go_wp2_with fail;refine(hall.out _ B1.out).mono ?_;rintro e w2 ⟨Bx,v,ss,rfl,hrow,hmd,hlen⟩;have B2:=Lh (B1.out.trans (Bx.mono B1.out.size));have hSL:=Lh (qby.of_own hrow);have hok:Hid (∀s∈ss,SOk s):=Lh (fun s hs=>(hmd s hs).ok);have hbt:Hid (∀s∈ss,SBt s):=Lh (fun s hs=>SOk.sbt (hmd s hs));obtain⟨av,cv,rfl⟩:=hSL.out.shape;clear Bx hall B1 hrow hmd
 have hrp:Calls Tryz.prog 24 #[.string (BS (odd.take j)),.string ⟨#[10]⟩,.string ⟨#[32]⟩] w2 fun e w'=>e= .returned (.string (BS (qoY (odd.take j))))∧Below w2.heap.size w2 w':=
  qqU 10 [32] (odd.take j) (by decide) (by rw[List.length_take];omega) (by decide) w2 (GG.out _ B2.out)
 rw[←qhw odd _ (by omega)] at hrp;obtain⟨ho1,ho2⟩:=qrX (odd.take j);obtain⟨o,ho⟩: ∃o,qoY (odd.take j)=o:=⟨_,rfl⟩;rw[ho] at ho1 ho2 hrp;have hol:o.length≤60:=by rw[ho2,List.length_take];omega
 have ho1h:=Lh ho1;replace hrp:=Lh hrp;clear ho ho1 ho2;go_wp2_with fail;refine hrp.out.mono ?_;rintro e w3 ⟨rfl,Bx⟩;have B3:=Lh (B2.out.trans (Bx.mono B2.out.size));replace hSL:=Lh (hSL.out.on Bx);clear Bx hrp B2;go_wp2_with fail;go_loopg [11,44] (ss.length+1) (fun gk s11 s44 wx=> ∃(i:Nat) (ls:List (List UInt8)),i≤ss.length∧ss.length - i<gk∧s44= .int .i64 (i:Int)∧ls.length≤2*i∧Hid (wx.ownsRow w3.heap.size 9 1 s11 ls.length (qaA ls))∧Hid (∀l∈ls,qtQ l)∧Hid (qcz ls=ss.take i)∧Hid ((qbp ls).length≤5005*i)∧Hid (Below w3.heap.size w3 wx))
 case atStart=>exact⟨0,[],by omega,by omega,by go_num,by simp,Lh ⟨rfl,.inl ⟨rfl,rfl⟩⟩,Lh (fun l hl=>by cases hl),Lh (by simp[qcz]),Lh (by simp[qbp]),Lh (Below.refl _ _)⟩
 case round=>
  obtain⟨i,ls,hi,hgk,rfl,hll,O,M,SM,FL,BJ⟩:=hrel
  by_cases hlt:i<ss.length
  ·have u2:decide ((i:Int)<(ss.length:Int))=true:=dT (by omega);have u3:decide (i<ss.length)=true:=dT hlt;obtain⟨bb,off,lv,rfl,hbl,⟨x0,x1,x2,x3⟩,hxl⟩:=hSL.out.at' i hlt;replace x0:=(BJ.out.cell (p:=⟨bb,off+i*4,none⟩) hbl).trans x0;replace x1:=(BJ.out.cell (p:=⟨bb,off+i*4+1,none⟩) hbl).trans x1;replace x2:=(BJ.out.cell (p:=⟨bb,off+i*4+2,none⟩) hbl).trans x2;replace x3:=(BJ.out.cell (p:=⟨bb,off+i*4+3,none⟩) hbl).trans x3;obtain⟨s,hsx⟩: ∃s,Hid (s=ss.getD i qba):=⟨_,Lh rfl⟩;have hsm:s∈ss:=by rw[hsx.out,List.getD_eq_getElem?_getD,List.getElem?_eq_getElem hlt];exact List.getElem_mem _
   have htk:ss.take (i+1)=ss.take i++[s]:=by rw[hsx.out,List.take_add_one,List.getElem?_eq_getElem hlt,List.getD_eq_getElem?_getD,List.getElem?_eq_getElem hlt];rfl
   rw[←hsx.out] at x1 x2 x3 hxl;have ho:=hok.out s hsm;have hb:=hbt.out s hsm;obtain⟨la,lc,rfl⟩:=hxl.shape;have hlF:=ho.line;have cl:=fun W (hb1:Below w3.heap.size w3 W)=>qjQ (.agg #[.slice la s.ls.length lc,.int .u64 (s.bits:Int),.bool s.st,.int .i64 s.t]) s hb.1 hb.2.1 hb.2.2 W (GG.out W (B3.out.trans (hb1.mono B3.out.size))) ⟨_,rfl,hxl.on hb1⟩
   rw[hlF] at cl;replace cl:=Lh cl;have hlk:=Lh (qoW ho);have htkh:=Lh htk;have i12:i<12:=by omega
   have Bx: ∀ob,Hid (Below wr.heap.size wr (wr.alloc ob)):=fun ob=>Lh ((Below.refl _ _).alloc (Nat.le_refl _) ob)
   obtain⟨tl,htl⟩: ∃tl,qaC s=tl:=⟨_,rfl⟩;rw[htl] at cl hlk;clear htl ho hb hxl hlF hsm htk;obtain⟨ls',bits,st,t⟩:=s;simp only at x0 x1 x2 x3 cl;obtain⟨bq,hbq⟩: ∃b,(Go.bits BinOp.and IntKind.u16 ((btw:Int)/2^i) 1==1)=b:=⟨_,rfl⟩;have BB0:=fun ob=>(Bx ob).out
   cases bq with
   |false=>
    have O1:=Lh (qac O.out (BB0 (.cells #[.slice la ls'.length lc,.int .u64 (bits:Int),.bool st,.int .i64 t] 34)));have BJ1:=Lh (BJ.out.trans ((BB0 (.cells #[.slice la ls'.length lc,.int .u64 (bits:Int),.bool st,.int .i64 t] 34)).mono BJ.out.size));clear O BJ Bx;go_wp2_with fail;refine(cl.out _ BJ1.out).mono ?_;rintro e w6 ⟨rfl,Bq⟩;have O3:=Lh (qac O1.out Bq);have BJ3:=Lh (BJ1.out.trans (Bq.mono BJ1.out.size));clear Bq cl O1 BJ1;have hsz:=BJ3.out.size;go_wp2_with (at_builtin;go_must (refine qcT rfl (.tmp 69) (.tmp 71) 42 rfl 1 #[.string (BS tl)] rfl (by decide) w3.heap.size (.string ⟨#[]⟩) 16 (by kernel_rfl) qhB rfl _ ls.length (qaA ls) rfl rfl O3.out (by intro u hu;simp at hu;subst hu;rfl) (by decide) (by omega) hsz ?_);rintro v2 w7 hown3 hb7 hs7 hk7 _;have O7:=Lh hown3;have B7:=Lh (BJ3.out.trans hb7);clear hown3 hb7 hs7 hk7 O3 BJ3 hsz);go_roundg (gk - 1)
    case measure=>omega
    case rel=>exact⟨i+1,ls++[tl],by omega,by omega,by go_num,by simp;omega,Lh (by rw[List.length_append,qcn];exact O7.out),Lh (fun l hl=>by rcases List.mem_append.1 hl with hl|hl;exact M.out l hl;rw[List.mem_singleton] at hl;rw[hl];exact hlk.out.1),Lh (by rw[htkh.out,qfi,hlk.out.2,SM.out]),Lh (by rw[qdT];have:=FL.out;have:=hlk.out.1.n;omega),B7⟩
   |true=>
    obtain⟨cm,hcm⟩: ∃cm,qsi.getD (i%4) []=cm:=⟨_,rfl⟩;have hcl:cm∈qsi:=by rw[←hcm];exact qdH (show i%4<qsi.length from Nat.mod_lt _ (by decide))
    obtain⟨m4,hm4⟩: ∃m,Hid (i%4=m):=⟨_,Lh rfl⟩;have l4:m4<4:=by have:=hm4.out;omega
    have e4:((i:Int)%4)=(m4:Int):=by have:=hm4.out;omega
    have d4:decide (m4<4)=true:=dT l4;have d4':decide ((m4:Int)<4)=true:=dT (by omega)
    have yN:((wr.alloc (.cells #[.slice la ls'.length lc,.int .u64 (bits:Int),.bool st,.int .i64 t] 34)).alloc (.cells #[.string ⟨#[]⟩,.string ⟨#[35,32,120]⟩,.string ⟨#[32,9]⟩,.string ⟨#[35]⟩] 9)).cell? ⟨wr.heap.size+1,m4,none⟩=some (.string (BS cm)):=by
     have:=World.alloc_heap_new (wr.alloc (.cells #[.slice la ls'.length lc,.int .u64 (bits:Int),.bool st,.int .i64 t] 34)) (.cells #[.string ⟨#[]⟩,.string ⟨#[35,32,120]⟩,.string ⟨#[32,9]⟩,.string ⟨#[35]⟩] 9);rw[World.size_alloc] at this;rw[Lib.cell_of_heap this,←hcm,hm4.out];rcases(show m4=0∨m4=1∨m4=2∨m4=3 by omega)with rfl|rfl|rfl|rfl<;>rfl
    have hco:=Lh (qsn hcl);clear hcm hcl;have Bn:=(BB0 (.cells #[.slice la ls'.length lc,.int .u64 (bits:Int),.bool st,.int .i64 t] 34)).trans (((Below.refl _ _).alloc (Nat.le_refl _) (.cells #[.string ⟨#[]⟩,.string ⟨#[35,32,120]⟩,.string ⟨#[32,9]⟩,.string ⟨#[35]⟩] 9)).mono (BB0 (.cells #[.slice la ls'.length lc,.int .u64 (bits:Int),.bool st,.int .i64 t] 34)).size);have O1:=Lh (qac O.out Bn);have BJ1:=Lh (BJ.out.trans (Bn.mono BJ.out.size));have N0:SB wr.heap.size (.slice la ls'.length lc) (bits:Int) st t (wr.alloc (.cells #[.slice la ls'.length lc,.int .u64 (bits:Int),.bool st,.int .i64 t] 34)):=World.alloc_heap_new wr _;have N1:=Lh (N0.on ((Below.refl _ _).alloc (Nat.le_refl _) (.cells #[.string ⟨#[]⟩,.string ⟨#[35,32,120]⟩,.string ⟨#[32,9]⟩,.string ⟨#[35]⟩] 9)));clear O BJ Bx BB0 N0;have hsz:=BJ1.out.size;go_wp2_with (at_builtin;go_must (refine qpE _ (by simp) rfl (.tmp 54) (.tmp 60) 42 rfl 1 #[.string (BS cm)] rfl (by decide) w3.heap.size (.string ⟨#[]⟩) 16 (by kernel_rfl) qhB rfl _ ls.length (qaA ls) rfl rfl O1.out (by intro u hu;simp at hu;subst hu;rfl) (by decide) (by omega) hsz ?_);rintro v2 w7 hown3 hb7 hs7 hk7 _;have O2:=Lh (show w7.ownsRow w3.heap.size 9 1 v2 (ls++[cm]).length (qaA (ls++[cm]))from by rw[List.length_append,qcn];exact hown3);have BJ2:=Lh (BJ1.out.trans hb7);have N2:SB wr.heap.size (.slice la ls'.length lc) (bits:Int) st t w7:=(qnp O1.out hk7) _ _ N1.out (by simp) (fun c fz e=>by cases e);have c0:=N2.c0;have c1:=N2.c1;have c2:=N2.c2;have c3:=N2.c3;clear hown3 hb7 hs7 hk7 O1 BJ1 hsz N1 N2);refine(cl.out _ BJ2.out).mono ?_;rintro e w6 ⟨rfl,Bq⟩;have O3:=Lh (qac O2.out Bq);have BJ3:=Lh (BJ2.out.trans (Bq.mono BJ2.out.size));clear Bq cl O2 BJ2;have hsz:=BJ3.out.size;go_wp2_with (at_builtin;go_must (refine qcT rfl (.tmp 69) (.tmp 71) 42 rfl 1 #[.string (BS tl)] rfl (by decide) w3.heap.size (.string ⟨#[]⟩) 16 (by kernel_rfl) qhB rfl _ (ls++[cm]).length (qaA (ls++[cm])) rfl rfl O3.out (by intro u hu;simp at hu;subst hu;rfl) (by decide) (by simp;omega) hsz ?_);rintro v2 w7 hown3 hb7 hs7 hk7 _;have O7:=Lh hown3;have B7:=Lh (BJ3.out.trans hb7);clear hown3 hb7 hs7 hk7 O3 BJ3 hsz);go_roundg (gk - 1)
    case measure=>omega
    case rel=>exact⟨i+1,(ls++[cm])++[tl],by omega,by omega,by go_num,by simp;omega,Lh (by rw[List.length_append,qcn];exact O7.out),Lh (fun l hl=>by rcases List.mem_append.1 hl with hl|hl;rcases List.mem_append.1 hl with hl|hl;exact M.out l hl;rw[List.mem_singleton] at hl;rw[hl];exact hco.out.1;rw[List.mem_singleton] at hl;rw[hl];exact hlk.out.1),Lh (by rw[htkh.out,qfi,hlk.out.2,qfi,hco.out.2.1,SM.out,List.append_nil]),Lh (by rw[qdT,qdT];have:=FL.out;have:=hlk.out.1.n;have:=hco.out.2.2;omega),B7⟩
  ·obtain rfl:i=ss.length:=by omega
   have u2:decide ((ss.length:Int)<(ss.length:Int))=false:=dF (by omega);have SM2:=SM.out;rw[List.take_of_length_le (Nat.le_refl _)] at SM2;have SMh:=Lh SM2;obtain⟨al,cl,rfl⟩:=qaf O.out;obtain⟨k,hk⟩: ∃k,Hid (at'%(ls.length+1)=k):=⟨_,Lh rfl⟩;have hkl:k≤ls.length:=by have:=hk.out;have:=Nat.mod_lt at' (show 0<ls.length+1 by omega);omega
   have ek:((at':Int)%((ls.length:Int)+1))=(k:Int):=by rw[←hk.out];simp
   have hll2:ls.length≤24:=by omega
   have hlz:((ls.length:Int)+1==0)=false:=by simp;omega
   clear SM SM2;go_upto_region 19 with (fail)
   rw[ek];have hRow:=Go.Proofs.YtdeimnnpcfncpaaGreatDoor.Row.of_owned O.out;obtain⟨hcap,hcm⟩:=qqM hRow;have hr3:=Lh (qnP hRow hkl);rw[←qbK ls] at hRow;have hr10:=ql4 k hRow (by rw[qbK];exact hkl);rw[qbK] at hr10;have h3:=Lh (fun W=>qsu al ls.length cl k (by omega) W);have h10:=Lh (fun W=>qr0 al ls.length cl k hkl hcap W);obtain⟨u10,hu10⟩: ∃u,(Value.slice (if cl=k then al else al.map (·.add k)) (ls.length - k) (cl - k))=u:=⟨_,rfl⟩;rw[hu10] at hr10;rw[hu10] at h10;have hr10h:=Lh hr10;obtain⟨p1,hp1⟩: ∃p,(qaA ls).take k=p:=⟨_,rfl⟩;obtain⟨p2,hp2⟩: ∃p,(qaA ls).drop k=p:=⟨_,rfl⟩;rw[hp1] at hr3;rw[hp2] at hr10h;have ho1: ∀c∈p1,c.oneCell'=true:=fun c hc=>qt2 ls c (by rw[←hp1] at hc;exact List.mem_of_mem_take hc)
   have ho2: ∀c∈p2,c.oneCell'=true:=fun c hc=>qt2 ls c (by rw[←hp2] at hc;exact List.mem_of_mem_drop hc)
   have hl1:p1.length=k:=by rw[←hp1,List.length_take,qbK];omega
   have hl2:p2.length=ls.length - k:=by rw[←hp2,List.length_drop,qbK]
   have hBh:=Lh (B3.out.trans (BJ.out.mono B3.out.size));clear hu10 hr10 hRow
   refine qeF (fun j=>([[],[],[],[1,2],[0,3],[],[5],[4,6],[],[],[8,9],[7,10],[11]]:List (List Nat)).getD j []) [12] [0,4,6,7,11,12] [7,11]
    (XL wr.heap.size k ls.length (.slice al ls.length cl) (.slice al k cl) u10 p1 p2 o)
    (by kernel_rfl) (by kernel_rfl) (by decide+kernel) (by kernel_rfl) (by decide+kernel) (fun j hj=>by rw[List.getD_eq_getElem?_getD,List.getElem?_eq_none (show 13≤j from hj)];rfl) (by decide+kernel) ?_ ?_ ?_ ?_
   ·intro i v w w' h hb;rcases i with _|_|_|_|_|_|_|_|_|_|_|_|_|i
    all_goals first|exact h|exact qac h hb|exact Go.Proofs.YtdeimnnpcfncpaaGreatDoor.Row.on h hb|exact⟨h.choose,h.choose_spec.1,qac h.choose_spec.2 hb⟩
   ·intro i v w w' hf _ h _;rcases i with _|_|_|_|_|_|_|_|_|_|_|_|_|i
    all_goals first|exact h|(exfalso;revert hf;decide)|skip
   ·intro i;rcases i with _|_|_|_|_|_|_|_|_|_|_|_|_|i
    all_goals intro oo hoo a wa hba hout hpre
    all_goals cases hoo
    all_goals have q11:a.tmps.getD 11 undef= .slice al ls.length cl:=(hout 11 (by decide+kernel)).trans rfl
    all_goals have q16:a.tmps.getD 16 undef= .int .i64 k:=(hout 16 (by decide+kernel)).trans rfl
    all_goals have q2:a.tmps.getD 2 undef= .string (BS o):=(hout 2 (by decide+kernel)).trans rfl
    all_goals clear hout
    ·exact qhF rfl (qae rfl) rfl (qpj wa) ⟨_,rfl,(Below.refl _ _).alloc (Nat.le_refl _) _,_,rfl,World.ownsRow_lit wa #[] 0 hba.size (by unfold maxLen;omega) rfl⟩
    ·exact qau rfl (qae rfl) (.inl rfl) ⟨_,rfl,Below.refl _ _,q11⟩
    ·exact qau rfl (qae rfl) (.inl rfl) ⟨_,rfl,Below.refl _ _,q16⟩
    ·have e1:a.tmps.getD 81 undef= .slice al ls.length cl:=hpre 1 (by simp) _ rfl;have e2:a.tmps.getD 82 undef= .int .i64 k:=hpre 2 (by simp) _ rfl;exact qfP rfl (qae rfl) rfl e1 e2 (h3.out wa) ⟨_,rfl,Below.refl _ _,rfl⟩
    ·obtain⟨b,e1,e2⟩: ∃b,a.tmps.getD 80 undef= .slice (some ⟨b,0,none⟩) 0 0∧wa.ownsRow wr.heap.size 9 1 (a.tmps.getD 80 undef) 0 []:=hpre 0 (by simp) _ rfl;have e3:a.tmps.getD 83 undef= .slice al k cl:=hpre 3 (by simp) _ rfl;rw[e1] at e2;refine qf1 (z:= .string ⟨#[]⟩) (bytes:=16) rfl rfl rfl Tryz.underlying42 qhB rfl _ p1 e1 e2 e3 (hr3.out.on hba) ho1 (by omega) (by omega) hba.size ?_;intro v' w' g1 g2;exact⟨_,rfl,g2,by rw[hl1] at g1;exact g1⟩
    ·exact qau rfl (qae rfl) (.inl rfl) ⟨_,rfl,Below.refl _ _,q2⟩
    ·have e1:a.tmps.getD 85 undef= .string (BS o):=hpre 5 (by simp) _ rfl;exact qg8 rfl (qae rfl) rfl e1 (qpH wa (BS o)) ⟨_,rfl,(Below.refl _ _).alloc (Nat.le_refl _) _,quh wa o⟩
    ·have e1:wa.ownsRow wr.heap.size 9 1 (a.tmps.getD 84 undef) k p1:=hpre 4 (by simp) _ rfl;have e2:qth wa (a.tmps.getD 86 undef) [.string (BS o)]:=hpre 6 (by simp) _ rfl;refine qdy (z:= .string ⟨#[]⟩) (bytes:=16) rfl rfl rfl Tryz.underlying42 qhB rfl _ _ _ [.string (BS o)] rfl e1 rfl e2 (by intro c hc;obtain rfl:=List.mem_singleton.1 hc;rfl) (by omega) (by simp;omega) hba.size ?_;intro v' w' g1 g2;exact⟨_,rfl,g2,g1⟩
    ·exact qau rfl (qae rfl) (.inl rfl) ⟨_,rfl,Below.refl _ _,q11⟩
    ·exact qau rfl (qae rfl) (.inl rfl) ⟨_,rfl,Below.refl _ _,q16⟩
    ·have e1:a.tmps.getD 88 undef= .slice al ls.length cl:=hpre 8 (by simp) _ rfl;have e2:a.tmps.getD 89 undef= .int .i64 k:=hpre 9 (by simp) _ rfl;exact qfB rfl (qae rfl) rfl e1 e2 (h10.out wa) ⟨_,rfl,Below.refl _ _,rfl⟩
    ·have e1:wa.ownsRow wr.heap.size 9 1 (a.tmps.getD 87 undef) (k+1) (p1++[.string (BS o)]):=hpre 7 (by simp) _ rfl;have e2:a.tmps.getD 90 undef=u10:=hpre 10 (by simp) _ rfl;refine qdy (z:= .string ⟨#[]⟩) (bytes:=16) rfl rfl rfl Tryz.underlying42 qhB rfl _ _ _ p2 rfl e1 e2 (hr10h.out.on hba) ho2 (by omega) (by omega) hba.size ?_;intro v' w' g1 g2;exact⟨_,rfl,g2,by rw[hl2] at g1;exact g1⟩
    ·have e1:wa.ownsRow wr.heap.size 9 1 (a.tmps.getD 91 undef) (k+1+(ls.length - k)) (p1++[.string (BS o)]++p2):=hpre 11 (by simp) _ rfl;exact qau rfl (qae rfl) (.inr rfl) ⟨_,rfl,Below.refl _ _,e1⟩
   ·intro a wa hba hF ha;have f17:wa.ownsRow wr.heap.size 9 1 (a.tmps.getD 17 undef) (k+1+(ls.length - k)) (p1++[.string (BS o)]++p2):=hF 12 (by simp) _ rfl;clear hF;simp only[List.foldl,qat] at ha;obtain⟨z17,hz17⟩: ∃z,a.tmps.getD 17 undef=z:=⟨_,rfl⟩;rw[hz17] at f17 ha;clear hz17;generalize a.tmps.getD 80 undef=z80 at ha;generalize a.tmps.getD 81 undef=z81 at ha;generalize a.tmps.getD 82 undef=z82 at ha;generalize a.tmps.getD 83 undef=z83 at ha;generalize a.tmps.getD 84 undef=z84 at ha;generalize a.tmps.getD 85 undef=z85 at ha;generalize a.tmps.getD 86 undef=z86 at ha;generalize a.tmps.getD 87 undef=z87 at ha;generalize a.tmps.getD 88 undef=z88 at ha;generalize a.tmps.getD 89 undef=z89 at ha;generalize a.tmps.getD 90 undef=z90 at ha;generalize a.tmps.getD 91 undef=z91 at ha;subst ha;simp only[Act.put,List.setIfInBounds_toArray,List.set_cons_succ,List.set_cons_zero];clear hr3 hr10h h3 h10 ho1 ho2;have hfl:=FL.out
    have hWe:qaA (ls.take k++o::ls.drop k)=p1++[.string (BS o)]++p2:=by
     rw[qcn,qhG,hp1,show qaA (o::ls.drop k)= .string (BS o)::qaA (ls.drop k)from rfl,qhp,hp2,List.append_assoc];rfl
    have hWn:(ls.take k++o::ls.drop k).length=k+1+(ls.length - k):=by
     rw[List.length_append,List.length_cons,List.length_take,List.length_drop];omega
    have hWf:(qbp (ls.take k++o::ls.drop k)).length≤65000:=by
     rw[qmg,List.take_append_drop];omega
    rw[←hWn,←hWe] at f17;have hLn:=qew.of_own f17;obtain⟨WL,hWL⟩: ∃WL,Hid (ls.take k++o::ls.drop k=WL):=⟨_,Lh rfl⟩;rw[hWL.out] at hLn hWf hWn
    have hWok: ∀l∈WL,(∀c∈l,c≠10)∧qnZ (qct l)∧l.length≤5000:=by
     intro l hl;rw[←hWL.out] at hl;rcases List.mem_append.1 hl with hl|hl
     ·have:=M.out l (List.mem_of_mem_take hl);exact⟨this.c,this.p,this.n⟩
     ·rcases List.mem_cons.1 hl with rfl|hl
      ·exact⟨ho1h.out,qei (.inl (Nat.le_trans (qix _) (by omega))),by omega⟩
      ·have:=M.out l (List.mem_of_mem_drop hl);exact⟨this.c,this.p,this.n⟩
    have hlf:=qeR WL (fun l hl=>(hWok l hl).1);have hWne:WL≠[]:=fun e=>by rw[e] at hWn;simp at hWn;omega
    have hWl2:WL.length≤25:=by omega
    have hBa:=Lh (hBh.out.trans (hba.mono hBh.out.size));replace hSL:=Lh ((hSL.out.on BJ.out).on hba);have hLnh:=Lh hLn;have cj:=Lh (qqW WL z17 hWne (by omega) (by omega) wa hLn);have hjf:=qgn WL hWne
    have hjz:(BS (Lib.join WL [10])).size≤65000:=by
     rw[qad];have:=congrArg List.length hjf;rw[List.length_append] at this;simp at this;omega
    have hWokh:=Lh hWok;clear hWe f17 hp1 hp2 hl1 hl2 hLn hWne hWok hba O BJ hBh;go_wp2_with fail;refine cj.out.mono ?_;rintro e w8 ⟨rfl,Bx⟩;have B8:=Lh (hBa.out.trans (Bx.mono hBa.out.size));replace hSL:=Lh (hSL.out.on Bx);replace hLnh:=Lh (hLnh.out.on Bx);clear Bx cj hBa;obtain⟨R,hR⟩: ∃R,qaz 0 WL qcs=R:=⟨_,rfl⟩;obtain⟨e9,n9,b9⟩:=R;have hRh:=Lh hR;have cp:=callsIn_wide.1 (qhM (qbp WL) (by omega) (fun y hy=>(hWokh.out y (by rw[←hlf];exact hy)).2.1) w8 (GG.out _ B8.out) e9 n9 b9 (by rw[hlf];exact hR));rw[←hjf,←qa8] at cp;replace cp:=Lh cp;clear hR hlf hjf;go_wp2_with fail;refine cp.out.mono ?_;rintro e w9 ⟨⟨sv,tv,hv,rfl,⟨q1,q4,q5⟩⟩,Bx⟩;have hS9:=qby.of_own q1;obtain⟨a1,c1,rfl⟩:=hS9.shape;obtain⟨a2,c2,rfl⟩:=qaf q4;obtain⟨a3,c3,rfl⟩:=qaf q5;have By:Below w9.heap.size w9 (w9.alloc (.cells #[.slice a1 b9.s.length c1,.slice a2 b9.t.length c2,.slice a3 b9.h.length c3] 66)):=(Below.refl _ _).alloc (Nat.le_refl _) _;have Bz:=Bx.trans (By.mono Bx.size);have G9:Bd3 w9.heap.size (.slice a1 b9.s.length c1) (.slice a2 b9.t.length c2) (.slice a3 b9.h.length c3) (w9.alloc (.cells #[.slice a1 b9.s.length c1,.slice a2 b9.t.length c2,.slice a3 b9.h.length c3] 66)):=World.alloc_heap_new w9 _;replace hS9:=Lh (hS9.on By);replace hSL:=Lh (hSL.out.on Bz);replace hLnh:=Lh (hLnh.out.on Bz);have B9:=Lh (B8.out.trans (Bz.mono B8.out.size));clear q1 q4 q5 Bx By Bz cp B8;go_upto_region 21 with (fail)
    generalize w9.alloc (.cells #[.slice a1 b9.s.length c1,.slice a2 b9.t.length c2,.slice a3 b9.h.length c3] 66)=w10 at*;generalize w9.heap.size=D9 at*;replace G9:=Lh G9;have ck:=Lh (qcH o (by omega) w10);go_wp2_with fail;refine ck.out.mono ?_;rintro e w11 ⟨rfl,Bx⟩;have hq: ∀s∈ss,s.ls.length≤1000000000:=fun s hs=>by have:=(hbt.out s hs).1.n;omega
    replace hS9:=Lh (hS9.out.on Bx);replace hSL:=Lh (hSL.out.on Bx);replace hLnh:=Lh (hLnh.out.on Bx);have B11:=Lh (B9.out.trans (Bx.mono B9.out.size));replace G9:=Lh (G9.out.on Bx);clear Bx ck B9
    by_cases h23:kindN o=2∨kindN o=3
    ·rcases h23 with hk|hk
     ·have hkk:qdd (kindN o)=⟨#[104,101,108,112]⟩:=by rw[hk];rfl
      have tk:(⟨#[104,101,108,112]⟩:ByteArray).toList=[104,101,108,112]:=by rw[ByteArray.toList_eq]
      rw[hkk];have htold:=qeM (ls.take k) (ls.drop k) o (fun l hl=>(M.out l (List.mem_of_mem_take hl)).g) (fun l hl=>(M.out l (List.mem_of_mem_drop hl)).g) (.inl hk) (by rw[List.length_take,List.length_drop];omega);rw[hWL.out,hRh.out,List.take_append_drop,SMh.out,List.length_take,Nat.min_eq_left hkl] at htold;rcases htold with ⟨b,hb1,hb2⟩|⟨e,hb1,hb2⟩
      ·obtain⟨rfl,rfl,rfl⟩:e9=0∧n9=0∧b9=b:=by simpa using hb1
       rw[hb2] at hS9 G9;have b0:=G9.out.c0;have cs:=Lh (qcg _ _ ss ss (by omega) (by omega) hq hq w11 hS9.out hSL.out);rw[(qbu ss ss).2 rfl] at cs;clear hb1 hb2 hk hkk;go_wp2_with fail;refine cs.out.mono ?_;rintro y w12 ⟨rfl,By⟩;have B12:=Lh (B11.out.trans (By.mono B11.out.size));go_wp2_with fail;go_ret;exact⟨rfl,B12.out⟩
      ·obtain⟨rfl,rfl,rfl⟩:e9=e∧n9=((k+1:Nat):Int)∧b9=qcs:=by simpa using hb1
       rw[show((k+1:Nat):Int)=(k:Int)+1 by omega];clear hb1 hk hkk;rcases hb2 with rfl|rfl
       all_goals go_wp2_with fail
       all_goals go_ret
       all_goals exact⟨rfl,B11.out⟩
     ·have hkk:qdd (kindN o)=⟨#[116,121,112,101]⟩:=by rw[hk];rfl
      have tk:(⟨#[116,121,112,101]⟩:ByteArray).toList=[116,121,112,101]:=by rw[ByteArray.toList_eq]
      rw[hkk];have htold:=qeM (ls.take k) (ls.drop k) o (fun l hl=>(M.out l (List.mem_of_mem_take hl)).g) (fun l hl=>(M.out l (List.mem_of_mem_drop hl)).g) (.inr hk) (by rw[List.length_take,List.length_drop];omega);rw[hWL.out,hRh.out,List.take_append_drop,SMh.out,List.length_take,Nat.min_eq_left hkl] at htold;rcases htold with ⟨b,hb1,hb2⟩|⟨e,hb1,hb2⟩
      ·obtain⟨rfl,rfl,rfl⟩:e9=0∧n9=0∧b9=b:=by simpa using hb1
       rw[hb2] at hS9 G9;have b0:=G9.out.c0;have cs:=Lh (qcg _ _ ss ss (by omega) (by omega) hq hq w11 hS9.out hSL.out);rw[(qbu ss ss).2 rfl] at cs;clear hb1 hb2 hk hkk;go_wp2_with fail;refine cs.out.mono ?_;rintro y w12 ⟨rfl,By⟩;have B12:=Lh (B11.out.trans (By.mono B11.out.size));go_wp2_with fail;go_ret;exact⟨rfl,B12.out⟩
      ·obtain⟨rfl,rfl,rfl⟩:e9=e∧n9=((k+1:Nat):Int)∧b9=qcs:=by simpa using hb1
       rw[show((k+1:Nat):Int)=(k:Int)+1 by omega];clear hb1 hk hkk;rcases hb2 with rfl|rfl
       all_goals go_wp2_with fail
       all_goals go_ret
       all_goals exact⟨rfl,B11.out⟩
    ·have hkN: ∀l∈WL,kindN l≠2∧kindN l≠3:=by
      intro l hl;rw[←hWL.out] at hl
      have hg: ∀l,qkJ l→kindN l≠2∧kindN l≠3:=fun l h=>by
       rcases h with ⟨h,_⟩|h|h<;>rw[h]<;>decide
      rcases List.mem_append.1 hl with hl|hl
      ·exact hg _ (M.out l (List.mem_of_mem_take hl)).g
      ·rcases List.mem_cons.1 hl with rfl|hl
       ·exact⟨fun e=>h23 (.inl e),fun e=>h23 (.inr e)⟩
       ·exact hg _ (M.out l (List.mem_of_mem_drop hl)).g
     have hsc:=qcX WL 0 qcs hkN (by show 0+_≤_;omega);rw[hRh.out] at hsc;obtain⟨SC,hSC⟩: ∃SC,Hid (qdA 0 WL []=SC):=⟨_,Lh rfl⟩;rw[show qcs.s=[] from rfl,hSC.out] at hsc;have hsch:=Lh hsc
     have tk: ∀l:List UInt8,kindN l≠2→kindN l≠3→((qdd (kindN l)).toList==[104,101,108,112])=false∧((qdd (kindN l)).toList==[116,121,112,101])=false:=by
      intro l e2 e3;rcases qdh l with e|e|e|e|e
      ·rw[e];simp[qdd,ByteArray.toList_eq]
      ·rw[e];simp[qdd,ByteArray.toList_eq]
      ·exact absurd e e2
      ·exact absurd e e3
      ·rw[e];simp[qdd,ByteArray.toList_eq]
     obtain⟨tk1,tk2⟩:=tk o (fun e=>h23 (.inl e)) (fun e=>h23 (.inr e));obtain⟨ko,hko⟩: ∃ko,qdd (kindN o)=ko:=⟨_,rfl⟩;rw[hko] at tk1 tk2⊢;have hkNh:=Lh hkN;obtain⟨az,cz,rfl⟩:=hLnh.out.shape;clear hsc hkN tk hko;obtain⟨m,hm⟩: ∃m,m=WL.length:=⟨_,rfl⟩;have hmh:=Lh hm;rw[←hm] at hWl2⊢;clear hm;go_wp2_with fail;have G9s:=Lh (fun W (hb:Below w11.heap.size w11 W)=>(show Bd3 D9 (.slice a1 b9.s.length c1) (.slice a2 b9.t.length c2) (.slice a3 b9.h.length c3) W from(hb.block D9 G9.out.lt).trans G9.out));clear hRh G9;go_loopg [22,132] (m+1) (fun gk s22 s132 wx=> ∃(i:Nat) (ps:List SV),i≤m∧m - i<gk∧s132= .int .i64 (i:Int)∧ps.length≤i∧Hid (wx.ownsRow w11.heap.size 34 4 s22 ps.length (qaQ ps))∧Hid (∀p∈ps,wx.ownsRow w11.heap.size 44 2 p.2 p.1.ls.length (qaa p.1.ls))∧Hid (∀p∈ps,p.1.ls.length≤1000000)∧Hid (qdA i (WL.drop i) (ps.map Prod.fst)=SC)∧Hid (Below w11.heap.size w11 wx))
     case atStart=>exact⟨0,[],by omega,by omega,by go_num,by simp,Lh ⟨rfl,.inl ⟨rfl,rfl⟩⟩,Lh (fun p hp=>by cases hp),Lh (fun p hp=>by cases hp),hSC,Lh (Below.refl _ _)⟩
     case round=>
      obtain⟨i,ps,hi,hgk,rfl,hpl,O,OL,OB,SCi,BJ⟩:=hrel
      by_cases hlt:i<m
      ·have hil:i<WL.length:=by rw[←hmh.out];exact hlt
       have u2:decide ((i:Int)<(m:Int))=true:=dT (by omega);have u3:decide (i<m)=true:=dT hlt;obtain⟨g,rfl,y0⟩:=(hLnh.out.on BJ.out).at' i hil
       have hdr:WL.drop i=WL.getD i []::WL.drop (i+1):=by
        rw[List.drop_eq_getElem_cons hil,List.getD_eq_getElem?_getD,List.getElem?_eq_getElem hil];rfl
       have hmem:WL.getD i []∈WL:=by rw[List.getD_eq_getElem?_getD,List.getElem?_eq_getElem hil];exact List.getElem_mem _
       have hsi:=SCi.out;rw[hdr,qdA] at hsi;obtain⟨l,hl⟩: ∃l,WL.getD i []=l:=⟨_,rfl⟩;rw[hl] at hsi hmem y0;obtain⟨-,hpc,hl5⟩:=hWokh.out l hmem;obtain⟨k2,k3⟩:=hkNh.out l hmem;have ck:=qcH l (by omega) wr;clear hl hdr hmem SCi
       by_cases h1:kindN l=1
       ·rw[if_pos h1] at hsi;rw[h1] at ck;have ck':Hid (Calls Tryz.prog 36 #[.string (BS l)] wr fun e w'=>e= .returned (.string ⟨#[115,97,109,112,108,101]⟩)∧Below wr.heap.size wr w'):=Lh ck;have tk:(⟨#[115,97,109,112,108,101]⟩:ByteArray).toList=[115,97,109,112,108,101]:=by rw[ByteArray.toList_eq]
        have crd:=Lh (fun W hG=>qc8 l (by omega) (fun _=>hpc) W hG);have hrr:=Lh (fun s (h:qaq l=(0,s))=>qja h);clear ck h1 k2 k3 hpc;go_wp2_with fail;refine ck'.out.mono ?_;rintro e w12 ⟨rfl,Bq⟩;have O1:=Lh (qac O.out Bq);have OL1:=Lh (fun p hp=>qac (OL.out p hp) Bq);have BJ1:=Lh (BJ.out.trans (Bq.mono BJ.out.size));clear Bq ck' O OL BJ y0;go_wp2_with fail;refine(crd.out _ (GG.out _ (B11.out.trans (BJ1.out.mono B11.out.size)))).mono ?_;rintro r w13 ⟨v,rfl,⟨lv,rfl,hown⟩,Bq⟩;obtain⟨ev,s,hrs⟩: ∃ev s,qaq l=(ev,s):=⟨_,_,rfl⟩;rw[hrs] at hsi hown⊢;simp only at hsi hown⊢;obtain⟨la,lc,rfl⟩:=qaf hown;have By:Below w13.heap.size w13 (w13.alloc (.cells #[.slice la s.ls.length lc,.int .u64 (s.bits:Int),.bool s.st,.int .i64 s.t] 34)):=(Below.refl _ _).alloc (Nat.le_refl _) _;have N3:SB w13.heap.size (.slice la s.ls.length lc) (s.bits:Int) s.st s.t (w13.alloc (.cells #[.slice la s.ls.length lc,.int .u64 (s.bits:Int),.bool s.st,.int .i64 s.t] 34)):=World.alloc_heap_new w13 _;have Bz:=Bq.trans (By.mono Bq.size);have O3:=Lh (qac O1.out Bz);have OL3:=Lh (fun p hp=>qac (OL1.out p hp) Bz);have hown3:=Lh (qaP (qac hown By) (show w11.heap.size≤w12.heap.size from BJ1.out.size));have BJ3:=Lh (BJ1.out.trans (Bz.mono BJ1.out.size));clear O1 OL1 BJ1 Bq By Bz hown crd;go_upto_region 30 with (fail)
        generalize w13.alloc (.cells #[.slice la s.ls.length lc,.int .u64 (s.bits:Int),.bool s.st,.int .i64 s.t] 34)=w14 at*;generalize w13.heap.size=D13 at*
        by_cases he:ev=0
        ·subst he;rw[if_pos rfl] at hsi
         have hsl:s.ls.length≤1000000:=by
          obtain⟨q1,_⟩:=hrr.out s hrs;have:=((qaH _).1 (qaJ q1).1).1;omega
         have hsih:=Lh hsi;have c0:=N3.c0;have c1:=N3.c1;have c2:=N3.c2;have c3:=N3.c3;have hsz:=BJ3.out.size;clear hsi hrs hrr N3;go_wp2_with (at_builtin;go_must (refine qcT rfl (.tmp 162) (.tmp 164) 28 rfl 4 #[.slice la s.ls.length lc,.int .u64 (s.bits:Int),.bool s.st,.int .i64 s.t] rfl (by decide) w11.heap.size (.agg #[.slice none 0 0,.int .u64 0,.bool false,.int .i64 0]) 48 (by kernel_rfl) qgk rfl _ ps.length (qaQ ps) rfl rfl O3.out (by intro u hu;simp at hu;rcases hu with rfl|rfl|rfl|rfl<;>rfl) (by decide) (by omega) hsz ?_);rintro v2 w16 hown4 hb6 hs6 hk6 _;have O6:=Lh (qia (lv:= .slice la s.ls.length lc) (s:=s) O3.out OL3.out hown3.out hown4 hk6);have B6:=Lh (BJ3.out.trans hb6);clear hown4 hb6 hs6 hk6 O3 OL3 hown3 BJ3 hsz);go_roundg (gk - 1)
         case measure=>omega
         case rel=>exact⟨i+1,_,by omega,by omega,by go_num,by rw[List.length_append];simp;omega,Lh O6.out.1,Lh O6.out.2,Lh (fun p hp=>by rcases List.mem_append.1 hp with hp|hp;exact OB.out p hp;rw[List.mem_singleton] at hp;subst hp;exact hsl),Lh (by rw[List.map_append];exact hsih.out),B6⟩
        ·rw[if_neg he] at hsi;have hfin:=hsch.out;rw[←hsi,if_neg he] at hfin;obtain⟨rfl,rfl,rfl⟩:e9=ev∧n9=((i+1:Nat):Int)∧b9=qcs:=by simpa using hfin
         have t1:(e9 !=0)=true:=by simpa using he
         have b0:=(G9s.out _ BJ3.out).c0;have B14:=Lh (B11.out.trans (BJ3.out.mono B11.out.size));rw[show qcs.s.length=0 from rfl] at b0;rw[show((i+1:Nat):Int)=(i:Int)+1 by omega];clear hsi hrs hrr hfin O3 OL3 hown3 BJ3;go_wp2_with fail;go_ret;exact⟨rfl,B14.out⟩
       ·rw[if_neg h1] at hsi;have hsih:=Lh hsi
        have tks:((qdd (kindN l)).toList==[115,97,109,112,108,101])=false:=by
         rcases qdh l with e|e|e|e|e
         ·rw[e];simp[qdd,ByteArray.toList_eq]
         ·exact absurd e h1
         ·exact absurd e k2
         ·exact absurd e k3
         ·rw[e];simp[qdd,ByteArray.toList_eq]
        obtain⟨kl,hkl⟩: ∃kl,qdd (kindN l)=kl:=⟨_,rfl⟩;rw[hkl] at ck tks;replace ck:=Lh ck;clear hsi hkl h1 k2 k3 hpc;go_wp2_with fail;refine ck.out.mono ?_;rintro e w12 ⟨rfl,Bq⟩;have O1:=Lh (qac O.out Bq);have OL1:=Lh (fun p hp=>qac (OL.out p hp) Bq);have BJ1:=Lh (BJ.out.trans (Bq.mono BJ.out.size));clear Bq ck O OL BJ y0;go_wp2_with fail;go_roundg (gk - 1)
        case measure=>omega
        case rel=>exact⟨i+1,ps,by omega,by omega,by go_num,by omega,O1,OL1,OB,hsih,BJ1⟩
      ·obtain rfl:i=m:=by omega
       have u2:decide ((i:Int)<(i:Int))=false:=dF (by omega);have hsi:=SCi.out;rw[List.drop_of_length_le (by rw[hmh.out];exact Nat.le_refl _),qdA] at hsi;have hfin:=hsch.out;rw[←hsi,if_pos rfl] at hfin;have hSW:=qby.of_own (show qrd w11.heap.size wr u22 (ps.map Prod.fst)from⟨ps,rfl,O.out,OL.out⟩)
       have hqw: ∀s∈ps.map Prod.fst,s.ls.length≤1000000000:=fun s hs=>by
        obtain⟨p,hp,rfl⟩:=List.mem_map.1 hs;have:=OB.out p hp;omega
       have hlw:(ps.map Prod.fst).length≤1000000000:=by rw[List.length_map];omega
       obtain⟨wn,hwn⟩: ∃wn,ps.map Prod.fst=wn:=⟨_,rfl⟩;rw[hwn] at hSW hqw hlw hfin;obtain⟨rfl,rfl,hb9⟩:e9=0∧n9=0∧b9=⟨wn,[],[]⟩:=by simpa [qcs] using hfin
       have b0:=(G9s.out _ BJ.out).c0;have hS9':=hS9.out.on BJ.out;rw[hb9] at b0 hS9';simp only at b0 hS9';have cs:=Lh (qcg _ _ wn wn hlw hlw hqw hqw wr hS9' hSW);rw[(qbu _ _).2 rfl] at cs;obtain⟨a22,c22,rfl⟩:=hSW.shape;have B14:=Lh (B11.out.trans (BJ.out.mono B11.out.size));clear hsi hfin SCi hSW hS9' O OL hwn hb9;go_wp2_with fail;refine cs.out.mono ?_;rintro y w12 ⟨rfl,By⟩;have B15:=Lh (B14.out.trans (By.mono B14.out.size));go_wp2_with fail;go_ret;exact⟨rfl,B15.out⟩
end Go.Proofs.YtdeimnnpcfncpaaGreatDoor.X
end
section
namespace Go.Proofs.YtdeimnnpcfncpaaGreatDoor
open Go Go.RowKit
theorem qry {a:Int} (h:(Lit.int .u16 a).wf=true): ∃n:Nat,a=(n:Int)∧n<65536:=by
 simp[Lit.wf,IntKind.min,IntKind.max,IntKind.signed,IntKind.bits] at h;exact⟨a.toNat,by omega,by omega⟩
theorem expoLines_walk (a0:Option Addr) (len0 cap0:Nat) (z0:List X.Sm) (a1:Int) (a2:ByteArray) (a3:Int) (w:World) (h0:z0.length=len0) (w0:X.SmRow w (.slice a0 z0.length cap0) z0) (c1:len0≤cap0) (c2:len0≤maxLen)
 (w1:(Lit.int .u16 a1).wf=true) (_w2:a2.size≤maxLen) (w3:(Lit.int .u8 a3).wf=true) (hG:X.EGlb w):
 Calls Tryz.prog 10 #[.slice a0 len0 cap0,.int .u16 a1,.string a2,.int .u8 a3] w fun e w'=>e= .returned (.bool true)∧Below w.heap.size w w':=by
 subst h0;obtain⟨b,rfl,hb⟩:=qry w1;obtain⟨t,rfl,ht⟩:=qr4 w3;have:=X.expoLines_any a0 cap0 z0 b a2.data.toList t hb ht w w0 c1 c2 hG;rwa[bs_self] at this
end Go.Proofs.YtdeimnnpcfncpaaGreatDoor
end
