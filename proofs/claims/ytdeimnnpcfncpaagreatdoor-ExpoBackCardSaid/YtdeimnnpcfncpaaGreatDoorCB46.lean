/- Parts of the proof: T4 V4 T8. -/
import Derived.Test.YtdeimnnpcfncpaaGreatDoorCB45
set_option linter.unusedVariables false
set_option linter.unusedSimpArgs false
set_option maxRecDepth 100000
set_option maxHeartbeats 64000000
section
namespace Go.Proofs.YtdeimnnpcfncpaaGreatDoor.X
open Go Go.RowKit
def qbE:List (List UInt8):=[[97],[98],[99],[106,111,98],[105,110,115,116,97,110,99,101],[95,95,110,97,109,101,95,95],[95,95,97,100,100,114,101,115,115,95,95],[95,95,109,101,116,97,95,120],[101,120,112,111,114,116,101,100,95,97],[101,120,112,111,114,116,101,100,95,98],[101,120,112,111,114,116,101,100,95,106,111,98],[101,120,112,111,114,116,101,100,95,101,120,112,111,114,116,101,100,95,97],[108,101],[65],[95],[120,57]]
def qdn:List (List UInt8):=[[],[49],[50],[195,169],[117,112],[97,32,98],[10],[57]]
def mkL (q:Nat×Nat):Lb:=(qbE.getD (q.1%16) [],qdn.getD (q.2%8) [])
def mdS (out:List Lb) (y:Lb):List Lb:=out.eraseP (fun x=>x.1==y.1)++[y]
def mdF (qs:List (Nat×Nat)):List Lb:=(qs.take 40).foldl (fun out q=>mdS out (mkL q)) []
def qp9 (w:World) (v:Value) (qs:List (Nat×Nat)):Prop:=
 (∃a c,v= .slice a 0 c∧qs=[])∨
 ∃b off cap,v= .slice (some ⟨b,off,none⟩) qs.length cap∧b<w.heap.size∧qs.length≤cap∧cap≤maxLen∧
  ∀i,i<qs.length→(w.cell? ⟨b,off+i*2,none⟩=some (.int .u8 ((qs.getD i (0,0)).1:Int))∧w.cell? ⟨b,off+i*2+1,none⟩=some (.int .u8 ((qs.getD i (0,0)).2:Int)))∧(qs.getD i (0,0)).1<256∧(qs.getD i (0,0)).2<256
theorem qp9.on {w W:World} {v:Value} {qs:List (Nat×Nat)} (h:qp9 w v qs) (hb:Below w.heap.size w W):qp9 W v qs:=by
 rcases h with h|⟨b,off,cap,h1,h2,h3,h4,h5⟩
 ·exact .inl h
 ·exact .inr ⟨b,off,cap,h1,Nat.lt_of_lt_of_le h2 hb.size,h3,h4,fun i hi=>⟨⟨(hb.cell (p:=⟨b,off+i*2,none⟩) h2).trans (h5 i hi).1.1,(hb.cell (p:=⟨b,off+i*2+1,none⟩) h2).trans (h5 i hi).1.2⟩,(h5 i hi).2⟩⟩
theorem qey (c:List UInt8): ∀(ls:List Lb) (j:Nat),j<ls.length→(∀x∈ls.take j,(x.1==c)=false)→((ls.getD j lb0).1==c)=true→ls.eraseP (fun x=>x.1==c)=ls.eraseIdx j
 | [],j,h,_,_=>by simp at h
 |x::r,0,_,_,h=>by rw[List.eraseP_cons_of_pos (by simpa using h)];rfl
 |x::r,j+1,h,h1,h2=>by
  have hx:=h1 x (by simp);rw[List.eraseP_cons_of_neg (by simp[hx]),List.eraseIdx_cons_succ,qey c r j (by simpa using h) (fun y hy=>h1 y (by simp[hy])) (by simpa using h2)]
theorem qq7 {ls:List Lb} {j:Nat} {x1 x2:List UInt8} (hj:j<ls.length) (h1: ∀x∈ls.take j,(x.1==x1)=false) (h2:((ls.getD j lb0).1==x1)=true):mdS ls (x1,x2)=ls.eraseIdx j++[(x1,x2)]:=by
 unfold mdS;rw[qey x1 ls j hj h1 h2]
theorem qql {ls:List Lb} {x1 x2:List UInt8} (h1: ∀x∈ls.take ls.length,(x.1==x1)=false):mdS ls (x1,x2)=ls++[(x1,x2)]:=by
 unfold mdS;rw[List.eraseP_of_forall_not (fun x hx=>by rw[List.take_length] at h1;simp[h1 x hx])]
theorem qkZ {qs:List (Nat×Nat)} {i:Nat} {ls:List Lb} {q:Nat×Nat} (hi:i<qs.length) (hq:qs.getD i (0,0)=q) (h:ls=(qs.take i).foldl (fun out q=>mdS out (mkL q)) []):mdS ls (mkL q)=(qs.take (i+1)).foldl (fun out q=>mdS out (mkL q)) []:=by
 have e:qs[i]=q:=by rw[←hq];simp[List.getD_eq_getElem?_getD,hi]
 rw[List.take_add_one,List.getElem?_eq_getElem hi,List.foldl_append,←h,e];rfl
theorem qnn (w:World):Calls Tryz.prog 105 #[] w fun e w'=>(∃b:Nat,e= .returned (.slice (some ⟨b,0,none⟩) 16 16)∧qdv w' b qbE)∧Below w.heap.size w w':=by
 have hT:=Lh (qce w qbE);go_enter Tryz.func105,Tryz.ntmps105;go_wp2_with fail;go_ret;exact⟨⟨w.heap.size,rfl,hT.out⟩,(Below.refl _ _).alloc (Nat.le_refl _) _⟩
def QB (D:Nat) (q:Nat×Nat) (W:World):Prop:=W.heap[D]?=some (.cells #[.int .u8 (q.1:Int),.int .u8 (q.2:Int)] 166 (0,0))
theorem QB.lt {D:Nat} {q:Nat×Nat} {W:World} (h:QB D q W):D<W.heap.size:=(Array.getElem?_eq_some_iff.1 h).1
theorem QB.on {D:Nat} {q:Nat×Nat} {W W':World} (h:QB D q W) (hb:Below W.heap.size W W'):QB D q W':=(hb.block D h.lt).trans h
theorem QB.c0 {D:Nat} {q:Nat×Nat} {W:World} (h:QB D q W):W.cell? ⟨D,0,none⟩=some (.int .u8 (q.1:Int)):=by rw[Lib.cell_of_heap h];rfl
theorem QB.c1 {D:Nat} {q:Nat×Nat} {W:World} (h:QB D q W):W.cell? ⟨D,1,none⟩=some (.int .u8 (q.2:Int)):=by rw[Lib.cell_of_heap h];rfl
theorem qtC (args:Array Value) (w:World):(callFunc 105 args).run Tryz.prog w= .ok (.enter 105 args) w:=enters_of Tryz.func105 (by kernel_rfl) rfl args w
theorem qtM {D:Nat} {a b:List UInt8} {w:World} (x1 x2:List UInt8) (h:LB 44 D a b w):(Instr.storeAt 44 (.pointer (some ⟨D,0,none⟩)) (.agg #[.string (BS x1),.string (BS x2)])).run Tryz.prog w= .ok () ((w.setCell ⟨D,0,none⟩ (.string (BS x1))).setCell ⟨D,1,none⟩ (.string (BS x2))):=by
 have h0:=h.c0;have h1:=h.c1;have z0:=h.fz 0;have z1:=h.fz 1;have h2:=(h.set0 x1).c1;have z2:=(h.set0 x1).fz 1;simp[go_sem,h0,h1,z0,z1,h2,z2]
theorem qgS {P:Program} {ops:Array Oper} {Q:Exit→Act→World→Prop} {a:Act} {w:World} {K:Act→World→Prop} {i:Nat} {o:Oper} {x y:Operand} {t:TypeId} {v p:Value} {w':World} (ho:ops[i]?=some o) (hm:Met ops a o) (hd:o.dst=none) (hop:o.op= .store t x y) (hx:a.eval x=p) (hy:a.eval y=v)
 (hr:(Instr.storeAt t p v).run P w= .ok () w') (hk:K a w'):wpOp P ops Q i K a w:=by
 unfold Met at hm;unfold wpOp;simp only[ho,hm,if_true];left;unfold Oper.wp
 have:(execOp a.eval o).run P w= .ok .skip w':=by
  simp[execOp,hop,hx,hy,hr,Result.andThen]
 rw[this];have e:a.put o.dst undef=a:=by rw[hd];rfl
 show K (a.put o.dst undef) w';rw[e];exact hk
def qsz (qs:List (Nat×Nat)) (w:World) (e:Ending) (w':World):Prop:=
 ∃v,e= .returned v∧w'.ownsRow w.heap.size 44 2 v (mdF qs).length (qaa (mdF qs))∧Below w.heap.size w w'∧(mdF qs).length≤40∧(mdF qs≠[]∨v= .slice none 0 0)
theorem qiU (qs:List (Nat×Nat)) (w:World) (a:Option Addr) (n c:Nat) (hr:qp9 w (.slice a n c) qs) (hn:n=qs.length) (hl:n≤9223372036854775807) (hcn:n≤c):Calls Tryz.prog 44 #[.slice a n c] w (qsz qs w):=by
 obtain⟨k,hk⟩: ∃k:Nat,k=min n 40:=⟨_,rfl⟩;have hkm:min (n:Int) 40=(k:Int):=by omega
 have hkn:k≤n:=by omega
 have hk40:k≤40:=by omega
 have hkc:decide (k≤c)=true:=dT (by omega);have hrh:=Lh hr;have hnh:=Lh hn;have hkh:=Lh hk;clear hk hr hn;go_enter Tryz.func44,Tryz.ntmps44;go_wp2_with fail;go_loopg [3,14] (k+1) (fun gk s3 s14 wx=> ∃(i:Nat) (ls:List Lb) (a3:Option Addr) (c3:Nat),i≤k∧k - i<gk∧s14= .int .i64 (i:Int)∧s3= .slice a3 ls.length c3∧ls.length≤i∧Hid (Below w.heap.size w wx)∧Hid (wx.ownsRow w.heap.size 44 2 s3 ls.length (qaa ls))∧Hid (ls=(qs.take i).foldl (fun out q=>mdS out (mkL q)) [])∧Hid (ls≠[]∨s3= .slice none 0 0))
 case atStart=>exact⟨0,[],none,0,by omega,by omega,by go_num,rfl,by simp,Lh (Below.refl _ _),Lh (qdV _ _),Lh rfl,Lh (.inr rfl)⟩
 case round=>
  obtain⟨i,ls,a3,c3,hi,hgk,rfl,rfl,hll,B,own,hfold,hnil⟩:=hrel;obtain⟨gk0,hg0⟩: ∃g,g=gk:=⟨_,rfl⟩;subst hg0
  by_cases hlt:i<k
  ·have hil:i<qs.length:=by rw[←hnh.out];omega
   obtain⟨b,off,rfl,y1,y2,q1,q2⟩: ∃b off,a=some ⟨b,off,none⟩∧wr.cell? ⟨b,off+i*2,none⟩=some (.int .u8 ((qs.getD i (0,0)).1:Int))∧wr.cell? ⟨b,off+i*2+1,none⟩=some (.int .u8 ((qs.getD i (0,0)).2:Int))∧(qs.getD i (0,0)).1<256∧(qs.getD i (0,0)).2<256:=by
    rcases hrh.out with ⟨_,_,h1,h2⟩|⟨b,off,cap,h1,h2,h3,h4,h5⟩
    ·rw[h2] at hil;simp at hil
    ·injection h1 with h6 _ _
     exact⟨b,off,h6,(B.out.cell (p:=⟨b,off+i*2,none⟩) h2).trans (h5 i hil).1.1,(B.out.cell (p:=⟨b,off+i*2+1,none⟩) h2).trans (h5 i hil).1.2,(h5 i hil).2⟩
   obtain⟨q,hq⟩: ∃q,qs.getD i (0,0)=q:=⟨_,rfl⟩;rw[hq] at y1 y2 q1 q2;have hqh:=Lh hq;have u2:decide ((i:Int)<(k:Int))=true:=dT (by omega);have u3:decide (i<k)=true:=dT hlt;have N5:QB wr.heap.size q (wr.alloc (.cells #[.int .u8 (q.1:Int),.int .u8 (q.2:Int)] 166)):=World.alloc_heap_new _ _;go_upto_region 5 with (fail)
   obtain⟨w1,hw1⟩: ∃w1,wr.alloc (.cells #[.int .u8 (q.1:Int),.int .u8 (q.2:Int)] 166)=w1:=⟨_,rfl⟩;obtain⟨q5,hq5⟩: ∃q5,wr.heap.size=q5:=⟨_,rfl⟩;rw[hw1,hq5] at N5;rw[hw1]
   try rw[hq5]
   have N5h:=Lh N5;have hm16:q.1%16<16:=Nat.mod_lt _ (by decide);have hm8:q.2%8<8:=Nat.mod_lt _ (by decide);have e16:((q.1:Int)%16)=((q.1%16:Nat):Int):=by omega
   have e8:((q.2:Int)%8)=((q.2%8:Nat):Int):=by omega
   obtain⟨x1,hx1⟩: ∃x,qbE.getD (q.1%16) []=x:=⟨_,rfl⟩;obtain⟨x2,hx2⟩: ∃x,qdn.getD (q.2%8) []=x:=⟨_,rfl⟩;have own1:=Lh (show w1.ownsRow w.heap.size 44 2 (.slice a3 ls.length c3) ls.length (qaa ls)from by rw[←hw1];exact qaf own.out ((Below.refl _ _).alloc (Nat.le_refl _) _));have B1:=Lh (show Below w.heap.size w w1 from by rw[←hw1];exact B.out.alloc B.out.size _);clear hw1 hq5 N5 own B y1 y2 hq
   refine qb3 14 (fun ix v W=>match ix with|0=>(∃b:Nat,v= .slice (some ⟨b,0,none⟩) 16 16∧qdv W b qbE)|1=>v= .pointer (some ⟨q5,0,none⟩)|2=>v= .int .u8 (q.1:Int)|3=>v= .int .u8 ((q.1%16:Nat):Int)|4=>(∃p:Addr,v= .pointer (some p)∧W.cell? p=some (.string (BS x1))∧p.block<W.heap.size)|5=>v= .string (BS x1)|6=>(∃b:Nat,v= .slice (some ⟨b,0,none⟩) 8 8∧qdv W b qdn)|7=>v= .pointer (some ⟨q5,1,none⟩)|8=>v= .int .u8 (q.2:Int)|9=>v= .int .u8 ((q.2%8:Nat):Int)|10=>(∃p:Addr,v= .pointer (some p)∧W.cell? p=some (.string (BS x2))∧p.block<W.heap.size)|11=>v= .string (BS x2)|12=>v= .agg #[.string (BS x1),.string (BS x2)]|_=>(∃D:Nat,v= .pointer (some ⟨D,0,none⟩)∧LB 44 D [] [] W∧w1.heap.size≤D))
    rfl (by kernel_rfl) (by kernel_rfl) (by decide+kernel) (by kernel_rfl) (by kernel_rfl) (by intro ix v A B h hb;rcases ix with _|_|_|_|_|_|_|_|_|_|_|_|_|_|ix<;>first|exact h|(obtain⟨N,e,g⟩:=h;exact⟨N,e,g.on hb⟩)|(obtain⟨p,e,g,k⟩:=h;exact⟨p,e,(hb.cell (p:=p) k).trans g,Nat.lt_of_lt_of_le k hb.size⟩)|(obtain⟨D,e,g,k⟩:=h;exact⟨D,e,g.on hb,k⟩)) ?_ ?_
   ·intro ix hix;rcases ix with _|_|_|_|_|_|_|_|_|_|_|_|_|_|ix
    all_goals try (exfalso;omega)
    all_goals clear hix
    all_goals intro o ho a wa hba hout hsz hpre
    all_goals cases ho
    all_goals have q5':a.tmps.getD 5 undef= .pointer (some ⟨q5,0,none⟩):=(hout 5 (by decide+kernel)).trans rfl
    all_goals clear hout hsz
    ·refine qb1 rfl (qai rfl) #[] (by simp) (qtC _ _) ((qnn wa).mono ?_);rintro e w' ⟨⟨b,rfl,hT⟩,hb⟩;exact⟨_,rfl,_,rfl,hb,_,rfl,hT⟩
    ·exact qeM rfl (qai rfl) rfl q5' (r:= .pointer (some ⟨q5,0,none⟩)) (by simp[go_sem]) ⟨_,rfl,Below.refl _ _,rfl⟩
    ·have p19:a.tmps.getD 19 undef= .pointer (some ⟨q5,0,none⟩):=hpre ⟨1,.data⟩ (by simp) rfl _ rfl;have h0:=(N5h.out.on hba).c0;exact qbv rfl (qai rfl) rfl p19 (by simp[go_sem,h0]) ⟨_,rfl,Below.refl _ _,rfl⟩
    ·have p20:a.tmps.getD 20 undef= .int .u8 (q.1:Int):=hpre ⟨2,.data⟩ (by simp) rfl _ rfl;exact qbC rfl (qai rfl) rfl p20 rfl (r:= .int .u8 ((q.1%16:Nat):Int)) (w':=wa) (by simp[go_sem];exact Int.tmod_eq_emod_of_nonneg (by omega)) ⟨_,rfl,Below.refl _ _,rfl⟩
    ·have p18:(∃b:Nat,(a.tmps.getD 18 undef)= .slice (some ⟨b,0,none⟩) 16 16∧qdv wa b qbE):=hpre ⟨0,.data⟩ (by simp) rfl _ rfl;have p21:a.tmps.getD 21 undef= .int .u8 ((q.1%16:Nat):Int):=hpre ⟨3,.data⟩ (by simp) rfl _ rfl;obtain⟨b,hb1,hb2⟩:=p18;have hi:=hm16;have hcell:=hb2.2 (q.1%16) (by show _<16;omega);rw[hx1] at hcell;have t1:decide (((q.1%16:Nat):Int)<16)=true:=dT (by omega);have t2:decide ((0:Int)≤((q.1%16:Nat):Int))=true:=dT (by omega);have t3:decide (q.1%16<16)=true:=dT (by omega);generalize q.1%16=z at*;exact qat rfl (qai rfl) (v:= .pointer (some ⟨b,z,none⟩)) (w':=wa) (by simp only[Array.getD_eq_getD_getElem?] at hb1 p21;simp[execOp,hb1,p21,go_sem,t1,t2,t3];intro h;omega) ⟨_,rfl,Below.refl _ _,_,rfl,hcell,hb2.1⟩
    ·have p22:(∃p:Addr,(a.tmps.getD 22 undef)= .pointer (some p)∧wa.cell? p=some (.string (BS x1))∧p.block<wa.heap.size):=hpre ⟨4,.data⟩ (by simp) rfl _ rfl;obtain⟨p,hp1,hp2,_⟩:=p22;exact qbv rfl (qai rfl) rfl hp1 (by simp[go_sem,hp2]) ⟨_,rfl,Below.refl _ _,rfl⟩
    ·exact qat rfl (qai rfl) (v:= .slice (some ⟨wa.heap.size,0,none⟩) 8 8) (w':=wa.alloc (.cells #[.string ⟨#[]⟩,.string ⟨#[49]⟩,.string ⟨#[50]⟩,.string ⟨#[195,169]⟩,.string ⟨#[117,112]⟩,.string ⟨#[97,32,98]⟩,.string ⟨#[10]⟩,.string ⟨#[57]⟩] 9)) (by simp[execOp,go_sem]) ⟨_,rfl,(Below.refl _ _).alloc (Nat.le_refl _) _,_,rfl,qce wa qdn⟩
    ·exact qeM rfl (qai rfl) rfl q5' (r:= .pointer (some ⟨q5,1,none⟩)) (by simp[go_sem]) ⟨_,rfl,Below.refl _ _,rfl⟩
    ·have p25:a.tmps.getD 25 undef= .pointer (some ⟨q5,1,none⟩):=hpre ⟨7,.data⟩ (by simp) rfl _ rfl;have h0:=(N5h.out.on hba).c1;exact qbv rfl (qai rfl) rfl p25 (by simp[go_sem,h0]) ⟨_,rfl,Below.refl _ _,rfl⟩
    ·have p26:a.tmps.getD 26 undef= .int .u8 (q.2:Int):=hpre ⟨8,.data⟩ (by simp) rfl _ rfl;exact qbC rfl (qai rfl) rfl p26 rfl (r:= .int .u8 ((q.2%8:Nat):Int)) (w':=wa) (by simp[go_sem];exact Int.tmod_eq_emod_of_nonneg (by omega)) ⟨_,rfl,Below.refl _ _,rfl⟩
    ·have p24:(∃b:Nat,(a.tmps.getD 24 undef)= .slice (some ⟨b,0,none⟩) 8 8∧qdv wa b qdn):=hpre ⟨6,.data⟩ (by simp) rfl _ rfl;have p27:a.tmps.getD 27 undef= .int .u8 ((q.2%8:Nat):Int):=hpre ⟨9,.data⟩ (by simp) rfl _ rfl;obtain⟨b,hb1,hb2⟩:=p24;have hi:=hm8;have hcell:=hb2.2 (q.2%8) (by show _<8;omega);rw[hx2] at hcell;have t1:decide (((q.2%8:Nat):Int)<8)=true:=dT (by omega);have t2:decide ((0:Int)≤((q.2%8:Nat):Int))=true:=dT (by omega);have t3:decide (q.2%8<8)=true:=dT (by omega);generalize q.2%8=z at*;exact qat rfl (qai rfl) (v:= .pointer (some ⟨b,z,none⟩)) (w':=wa) (by simp only[Array.getD_eq_getD_getElem?] at hb1 p27;simp[execOp,hb1,p27,go_sem,t1,t2,t3];intro h;omega) ⟨_,rfl,Below.refl _ _,_,rfl,hcell,hb2.1⟩
    ·have p28:(∃p:Addr,(a.tmps.getD 28 undef)= .pointer (some p)∧wa.cell? p=some (.string (BS x2))∧p.block<wa.heap.size):=hpre ⟨10,.data⟩ (by simp) rfl _ rfl;obtain⟨p,hp1,hp2,_⟩:=p28;exact qbv rfl (qai rfl) rfl hp1 (by simp[go_sem,hp2]) ⟨_,rfl,Below.refl _ _,rfl⟩
    ·have p23:a.tmps.getD 23 undef= .string (BS x1):=hpre ⟨5,.data⟩ (by simp) rfl _ rfl;have p29:a.tmps.getD 29 undef= .string (BS x2):=hpre ⟨11,.data⟩ (by simp) rfl _ rfl;exact qat rfl (qai rfl) (v:= .agg #[.string (BS x1),.string (BS x2)]) (w':=wa) (by simp only[Array.getD_eq_getD_getElem?] at p23 p29;simp[execOp,p23,p29,go_sem]) ⟨_,rfl,Below.refl _ _,rfl⟩
    ·exact qat rfl (qai rfl) (v:= .pointer (some ⟨wa.heap.size,0,none⟩)) (w':=wa.alloc (.cells #[.string ⟨#[]⟩,.string ⟨#[]⟩] 44)) (by simp[execOp,go_sem]) ⟨_,rfl,(Below.refl _ _).alloc (Nat.le_refl _) _,_,rfl,World.alloc_heap_new wa _,hba.size⟩
   ·intro a wa hba hF ha;have f0:(∃b:Nat,(a.tmps.getD 18 undef)= .slice (some ⟨b,0,none⟩) 16 16∧qdv wa b qbE):=hF 0 (by decide) _ rfl;have f1:a.tmps.getD 19 undef= .pointer (some ⟨q5,0,none⟩):=hF 1 (by decide) _ rfl;have f2:a.tmps.getD 20 undef= .int .u8 (q.1:Int):=hF 2 (by decide) _ rfl;have f3:a.tmps.getD 21 undef= .int .u8 ((q.1%16:Nat):Int):=hF 3 (by decide) _ rfl;have f4:(∃p:Addr,(a.tmps.getD 22 undef)= .pointer (some p)∧wa.cell? p=some (.string (BS x1))∧p.block<wa.heap.size):=hF 4 (by decide) _ rfl;have f5:a.tmps.getD 23 undef= .string (BS x1):=hF 5 (by decide) _ rfl;have f6:(∃b:Nat,(a.tmps.getD 24 undef)= .slice (some ⟨b,0,none⟩) 8 8∧qdv wa b qdn):=hF 6 (by decide) _ rfl;have f7:a.tmps.getD 25 undef= .pointer (some ⟨q5,1,none⟩):=hF 7 (by decide) _ rfl;have f8:a.tmps.getD 26 undef= .int .u8 (q.2:Int):=hF 8 (by decide) _ rfl;have f9:a.tmps.getD 27 undef= .int .u8 ((q.2%8:Nat):Int):=hF 9 (by decide) _ rfl;have f10:(∃p:Addr,(a.tmps.getD 28 undef)= .pointer (some p)∧wa.cell? p=some (.string (BS x2))∧p.block<wa.heap.size):=hF 10 (by decide) _ rfl;have f11:a.tmps.getD 29 undef= .string (BS x2):=hF 11 (by decide) _ rfl;have f12:a.tmps.getD 30 undef= .agg #[.string (BS x1),.string (BS x2)]:=hF 12 (by decide) _ rfl;have f13:(∃D:Nat,(a.tmps.getD 6 undef)= .pointer (some ⟨D,0,none⟩)∧LB 44 D [] [] wa∧w1.heap.size≤D):=hF 13 (by decide) _ rfl;clear hF;obtain⟨fv0,hu0⟩: ∃u,u=a.tmps.getD 18 undef:=⟨_,rfl⟩;rw[←hu0] at f0;obtain⟨fv4,hu4⟩: ∃u,u=a.tmps.getD 22 undef:=⟨_,rfl⟩;rw[←hu4] at f4;obtain⟨fv6,hu6⟩: ∃u,u=a.tmps.getD 24 undef:=⟨_,rfl⟩;rw[←hu6] at f6;obtain⟨fv10,hu10⟩: ∃u,u=a.tmps.getD 28 undef:=⟨_,rfl⟩;rw[←hu10] at f10;obtain⟨fv13,hu13⟩: ∃u,u=a.tmps.getD 6 undef:=⟨_,rfl⟩;rw[←hu13] at f13;simp only[List.take,List.foldl,qau,←hu0,f1,f2,f3,←hu4,f5,←hu6,f7,f8,f9,←hu10,f11,f12,←hu13] at ha;clear f1 f2 f3 f5 f7 f8 f9 f11 f12 hu0 hu4 hu6 hu10 hu13;subst ha;simp only[Act.put,List.setIfInBounds_toArray,List.set_cons_succ,List.set_cons_zero];obtain⟨D,rfl,LD,hDge⟩:=f13;refine qgS rfl (qai rfl) rfl rfl rfl rfl (qtM x1 x2 LD) ?_;have LE:LB 44 D x1 x2 _:=(LD.set0 x1).set1 x2;obtain⟨w2,hw2⟩: ∃x,(wa.setCell ⟨D,0,none⟩ (.string (BS x1))).setCell ⟨D,1,none⟩ (.string (BS x2))=x:=⟨_,rfl⟩;have B2:Below w1.heap.size w1 w2:=by rw[←hw2];exact(hba.setCell hDge _).setCell hDge _
    rw[hw2] at LE⊢;have hQE:mkL q=(x1,x2):=by unfold mkL;rw[hx1,hx2]
    have LEh:=Lh LE;have B2h:=Lh B2;have own2:=Lh (qaf own1.out B2);clear f0 f4 f6 f10 LD hba hw2 LE B2 hx1 hx2 hm16 hm8 e16 e8 N5h;have hllh:=Lh hll;go_wp2_with fail;go_loopg [3,33] (ls.length+1) (fun gk s3 s33 wx=> ∃j:Nat,j≤ls.length∧ls.length - j<gk∧s33= .int .i64 (j:Int)∧s3= .slice a3 ls.length c3∧Hid (LB 44 D x1 x2 wx)∧Hid (Below w1.heap.size w1 wx)∧Hid (wx.ownsRow w.heap.size 44 2 (.slice a3 ls.length c3) ls.length (qaa ls))∧Hid (∀x∈ls.take j,(x.1==x1)=false))
    case atStart=>exact⟨0,by omega,by omega,by go_num,rfl,LEh,B2h,own2,Lh (by simp)⟩
    case round=>
     clear LEh B2h own2;obtain⟨j,hj,hgj,rfl,rfl,LEh,B2h,own2,hne⟩:=hrel;have R3:=Lh (qaH.of_owned own2.out)
     by_cases hjl:j<ls.length
     ·obtain⟨b3,o3,rfl,hb3,r1,_⟩:=R3.out.at' j hjl;have e0:=LEh.out.c0;obtain⟨x,hx⟩: ∃x,ls.getD j lb0=x:=⟨_,rfl⟩;rw[hx] at r1;have u4:decide ((j:Int)<(ls.length:Int))=true:=dT (by omega);have u5':decide (j<ls.length)=true:=dT hjl;go_wp2_with fail;have hD2:D<wr.heap.size:=LEh.out.lt;go_quiet (fail);have LE3:=Lh (show LB 44 D x1 x2 (wr.drewN nq)from LEh.out);have B3:=Lh (show Below w1.heap.size w1 (wr.drewN nq)from bq B2h.out nq);have own3:=Lh (show(wr.drewN nq).ownsRow w.heap.size 44 2 (.slice (some ⟨b3,o3,none⟩) ls.length c3) ls.length (qaa ls)from own2.out);clear LEh B2h own2 R3 r1 e0
      by_cases he:(x.1==x1)=true
      ·have he':((BS x.1).toList==(BS x1).toList)=true:=by rw[qab,qab];exact he
       rw[he'];go_upto_region 10 with (fail)
       obtain⟨_,hlc,_,_⟩:=qfE own3.out;have hll2:=hllh.out;obtain⟨a2,n2,c2,hT⟩: ∃a2 n2 c2,Value.slice a2 n2 c2=sliced (some ⟨b3,o3,none⟩) (j+1) ls.length c3 2:=⟨_,_,_,rfl⟩
       refine qb3 9 (fun ix v W=>match ix with|0=>v= .slice (some ⟨b3,o3,none⟩) ls.length c3|1=>v= .int .i64 (j:Int)|2=>v= .int .i64 (j:Int)|3=>v= .slice (some ⟨b3,o3,none⟩) j j|4=>v= .slice (some ⟨b3,o3,none⟩) ls.length c3|5=>v= .int .i64 (j:Int)|6=>v= .int .i64 ((j:Int)+1)|7=>v= .slice a2 n2 c2|_=>qn1 w.heap.size W v (ls.eraseIdx j))
        rfl (by kernel_rfl) (by kernel_rfl) (by decide+kernel) (by kernel_rfl) (by kernel_rfl) (by intro ix v A B h hb;rcases ix with _|_|_|_|_|_|_|_|ix<;>first|exact h|exact h.on hb) ?_ ?_
       ·intro ix hix;rcases ix with _|_|_|_|_|_|_|_|_|ix
        all_goals try (exfalso;omega)
        all_goals clear hix
        all_goals intro o ho a wa hba hout hsz hpre
        all_goals cases ho
        all_goals have q3:a.tmps.getD 3 undef= .slice (some ⟨b3,o3,none⟩) ls.length c3:=(hout 3 (by decide+kernel)).trans rfl
        all_goals have q7:a.tmps.getD 7 undef= .int .i64 (j:Int):=(hout 7 (by decide+kernel)).trans rfl
        all_goals clear hout hsz
        ·exact qaD rfl (qai rfl) (.inl rfl) ⟨_,rfl,Below.refl _ _,q3⟩
        ·exact qaD rfl (qai rfl) (.inl rfl) ⟨_,rfl,Below.refl _ _,q7⟩
        ·exact qaD rfl (qai rfl) (.inl rfl) ⟨_,rfl,Below.refl _ _,q7⟩
        ·have p44:a.tmps.getD 44 undef= .slice (some ⟨b3,o3,none⟩) ls.length c3:=hpre ⟨0,.data⟩ (by simp) rfl _ rfl;have p45:a.tmps.getD 45 undef= .int .i64 (j:Int):=hpre ⟨1,.data⟩ (by simp) rfl _ rfl;have p46:a.tmps.getD 46 undef= .int .i64 (j:Int):=hpre ⟨2,.data⟩ (by simp) rfl _ rfl;exact qat rfl (qai rfl) (v:= .slice (some ⟨b3,o3,none⟩) j j) (w':=wa) (qtB rfl p44 p45 p46 (by omega)) ⟨_,rfl,Below.refl _ _,rfl⟩
        ·exact qaD rfl (qai rfl) (.inl rfl) ⟨_,rfl,Below.refl _ _,q3⟩
        ·exact qaD rfl (qai rfl) (.inl rfl) ⟨_,rfl,Below.refl _ _,q7⟩
        ·have p49:a.tmps.getD 49 undef= .int .i64 (j:Int):=hpre ⟨5,.data⟩ (by simp) rfl _ rfl;exact qbC rfl (qai rfl) rfl p49 rfl (r:= .int .i64 ((j:Int)+1)) (w':=wa) (by simp[go_sem];rw[IntKind.wrap_i64];omega) ⟨_,rfl,Below.refl _ _,rfl⟩
        ·have p48:a.tmps.getD 48 undef= .slice (some ⟨b3,o3,none⟩) ls.length c3:=hpre ⟨4,.data⟩ (by simp) rfl _ rfl;have p50:a.tmps.getD 50 undef= .int .i64 ((j:Int)+1):=hpre ⟨6,.data⟩ (by simp) rfl _ rfl;exact qat rfl (qai rfl) (v:= .slice a2 n2 c2) (w':=wa) (by rw[hT];exact qtE rfl p48 p50 hjl) ⟨_,rfl,Below.refl _ _,rfl⟩
        ·have p47:a.tmps.getD 47 undef= .slice (some ⟨b3,o3,none⟩) j j:=hpre ⟨3,.data⟩ (by simp) rfl _ rfl;have p51:a.tmps.getD 51 undef= .slice a2 n2 c2:=hpre ⟨7,.data⟩ (by simp) rfl _ rfl;obtain⟨v',w',g1,g2,g3⟩:=qp8 (Nat.le_trans (Nat.le_trans B1.out.size B3.out.size) hba.size) (qaf own3.out hba) j hjl (by omega) a2 n2 c2 hT;exact qat rfl (qai rfl) (v:=v') (w':=w') (qtQ rfl rfl p47 p51 g1) ⟨_,rfl,g3,g2⟩
       ·intro a wa hba hF ha;have f0:a.tmps.getD 44 undef= .slice (some ⟨b3,o3,none⟩) ls.length c3:=hF 0 (by decide) _ rfl;have f1:a.tmps.getD 45 undef= .int .i64 (j:Int):=hF 1 (by decide) _ rfl;have f2:a.tmps.getD 46 undef= .int .i64 (j:Int):=hF 2 (by decide) _ rfl;have f3:a.tmps.getD 47 undef= .slice (some ⟨b3,o3,none⟩) j j:=hF 3 (by decide) _ rfl;have f4:a.tmps.getD 48 undef= .slice (some ⟨b3,o3,none⟩) ls.length c3:=hF 4 (by decide) _ rfl;have f5:a.tmps.getD 49 undef= .int .i64 (j:Int):=hF 5 (by decide) _ rfl;have f6:a.tmps.getD 50 undef= .int .i64 ((j:Int)+1):=hF 6 (by decide) _ rfl;have f7:a.tmps.getD 51 undef= .slice a2 n2 c2:=hF 7 (by decide) _ rfl;have f8:qn1 w.heap.size wa (a.tmps.getD 52 undef) (ls.eraseIdx j):=hF 8 (by decide) _ rfl;clear hF;obtain⟨fv8,hu8⟩: ∃u,u=a.tmps.getD 52 undef:=⟨_,rfl⟩;rw[←hu8] at f8;simp only[List.take,List.foldl,qau,f0,f1,f2,f3,f4,f5,f6,f7,←hu8] at ha;clear f0 f1 f2 f3 f4 f5 f6 f7 hu8;subst ha;simp only[Act.put,List.setIfInBounds_toArray,List.set_cons_succ,List.set_cons_zero];refine qaD rfl (qai rfl) (Or.inr rfl) ?_;simp only[Act.put,List.setIfInBounds_toArray,List.set_cons_succ,List.set_cons_zero];clear hT hlc;have e0:=(LE3.out.on hba).c0;have e1:=(LE3.out.on hba).c1;have hel:(ls.eraseIdx j).length=ls.length - 1:=by rw[List.length_eraseIdx];simp[hjl]
        go_wp2_with (at_builtin;go_must (refine qjI rfl (.tmp 54) (.tmp 56) rfl rfl rfl rfl f8 (by have:=hllh.out;omega) (x1,x2) ?_);rintro v2 w10 hown2' hb5;have own4:=Lh hown2';have B4:=Lh hb5;clear hown2' hb5);go_roundg (gk0 - 1)
        case measure=>omega
        case rel=>
         obtain⟨a4,c4,e4⟩:=qac own4.out;exact⟨i+1,ls.eraseIdx j++[(x1,x2)],a4,c4,by omega,by omega,by go_num,e4,by simp only[List.length_append,List.length_cons,List.length_nil];have:=hllh.out;rw[hel];omega,Lh ((B1.out.trans (B3.out.mono B1.out.size)).trans ((hba.mono (Nat.le_trans B1.out.size B3.out.size)).trans B4.out)),own4,Lh (by rw[←qkZ hil hqh.out hfold.out,hQE];exact(qq7 hjl hne.out (by rw[hx];exact he)).symm),Lh (.inl (fun e=>by have:=congrArg List.length e;rw[List.length_append] at this;exact absurd this (Nat.succ_ne_zero _)))⟩
      ·have he0:(x.1==x1)=false:=Bool.eq_false_iff.2 he;have he':((BS x.1).toList==(BS x1).toList)=false:=by rw[qab,qab];exact he0
       rw[he'];go_wp2_with fail;go_roundg (gk - 1)
       case measure=>omega
       case rel=>exact⟨j+1,by omega,by omega,by go_num,rfl,LE3,B3,own3,Lh (by
        intro y hy;rw[List.take_add_one] at hy;rcases List.mem_append.1 hy with hy|hy
        ·exact hne.out y hy
        ·rw[List.getElem?_eq_getElem hjl] at hy;simp at hy;rw[hy];have:ls.getD j lb0=ls[j]:=by simp[List.getD_eq_getElem?_getD,hjl]
         rw[←this,hx];exact he0)⟩
     ·obtain rfl:j=ls.length:=by omega
      have u4:decide ((ls.length:Int)<(ls.length:Int))=false:=dF (by omega);have e0:=LEh.out.c0;have e1:=LEh.out.c1;have I3:qn1 w.heap.size wr (.slice a3 ls.length c3) ls:=⟨Nat.le_trans B1.out.size B2h.out.size,.inl own2.out⟩;go_wp2_with (at_builtin;go_must (refine qjI rfl (.tmp 54) (.tmp 56) rfl rfl rfl rfl I3 (by have:=hllh.out;omega) (x1,x2) ?_);rintro v2 w10 hown2' hb5;have own4:=Lh hown2';have B4:=Lh hb5;clear hown2' hb5);go_roundg (gk0 - 1)
      case measure=>omega
      case rel=>
       obtain⟨a4,c4,e4⟩:=qac own4.out;exact⟨i+1,ls++[(x1,x2)],a4,c4,by omega,by omega,by go_num,e4,by simp only[List.length_append,List.length_cons,List.length_nil];have:=hllh.out;omega,Lh ((B1.out.trans (B2h.out.mono B1.out.size)).trans B4.out),own4,Lh (by rw[←qkZ hil hqh.out hfold.out,hQE];exact(qql hne.out).symm),Lh (.inl (fun e=>by have:=congrArg List.length e;rw[List.length_append] at this;exact absurd this (Nat.succ_ne_zero _)))⟩
  ·obtain rfl:i=k:=by omega
   have u2:decide ((i:Int)<(i:Int))=false:=dF (by omega);go_wp2_with fail;go_ret
   have e:mdF qs=ls:=by
    unfold mdF;rw[hfold.out];congr 1;have h1:=hkh.out;have h2:=hnh.out
    by_cases h:n≤40
    ·rw[List.take_of_length_le (by omega),List.take_of_length_le (by omega)]
    ·rw[show i=40 by omega]
   refine⟨_,rfl,?_,B.out,by rw[e];omega,by rw[e];exact hnil.out⟩;rw[e];exact own.out
theorem qon (c:List UInt8): ∀ls:List Lb,(ls.map Prod.fst).Nodup→ ∀x∈ls.eraseP (fun x=>x.1==c),x.1≠c
 | [],_,x,hx=>by cases hx
 |y::t,h,x,hx=>by
  obtain⟨h1,h2⟩:=List.nodup_cons.1 (by simpa using h:(y.1::t.map Prod.fst).Nodup)
  by_cases hy:(y.1==c)=true
  ·rw[List.eraseP_cons_of_pos (p:=fun x:Lb=>x.1==c) hy] at hx;rw[←eq_of_beq hy];intro e;exact h1 (List.mem_map.2 ⟨x,hx,e⟩)
  ·rw[List.eraseP_cons_of_neg (p:=fun x:Lb=>x.1==c) hy] at hx;rcases List.mem_cons.1 hx with rfl|hx
   ·intro e;exact hy (by rw[e];exact beq_self_eq_true _)
   ·exact qon c t h2 x hx
def MdL (ls:List Lb):Prop:=(ls.map Prod.fst).Nodup∧ ∀x∈ls,x.1∈qbE∧x.2∈qdn
theorem qqR {ls:List Lb} {y:Lb} (h:MdL ls) (hy:y.1∈qbE∧y.2∈qdn):MdL (mdS ls y):=by
 unfold mdS;refine⟨?_,fun x hx=>?_⟩
 ·rw[List.map_append,List.nodup_append];refine⟨List.Nodup.sublist ((List.eraseP_sublist ..).map _) h.1,by simp,?_⟩;intro a ha b hb;obtain⟨x,hx,rfl⟩:=List.mem_map.1 ha;simp at hb;rw[hb];exact qon y.1 ls h.1 x hx
 ·rcases List.mem_append.1 hx with hx|hx
  ·exact h.2 x (List.mem_of_mem_eraseP hx)
  ·rw[List.mem_singleton] at hx;subst hx;exact hy
theorem qe5 {l:List (List UInt8)} {i:Nat} (h:i<l.length):l.getD i []∈l:=by
 rw[List.getD_eq_getElem?_getD,List.getElem?_eq_getElem h,Option.getD_some];exact List.getElem_mem h
theorem qq9 (q:Nat×Nat):(mkL q).1∈qbE∧(mkL q).2∈qdn:=
 ⟨qe5 (by show _<16;exact Nat.mod_lt _ (by decide)),qe5 (by show _<8;exact Nat.mod_lt _ (by decide))⟩
theorem qij: ∀(qs:List (Nat×Nat)) (ls:List Lb),MdL ls→MdL (qs.foldl (fun out q=>mdS out (mkL q)) ls)
 | [],_,h=>h
 |q::t,ls,h=>qij t _ (qqR h (qq9 q))
theorem qnH (qs:List (Nat×Nat)):MdL (mdF qs):=qij _ _ ⟨by simp,by simp⟩
theorem qkM {α:Type} [BEq α] [LawfulBEq α]: ∀(l m:List α),l.Nodup→(∀x∈l,x∈m)→l.length≤m.length
 | [],_,_,_=>Nat.zero_le _
 |x::t,m,h,hs=>by
  obtain⟨h1,h2⟩:=List.nodup_cons.1 h;have hx:=hs x (List.mem_cons_self ..);have:=qkM t (m.erase x) h2 (fun y hy=>(List.mem_erase_of_ne (fun e=>h1 (by rw[←e];exact hy))).2 (hs y (List.mem_cons_of_mem _ hy)));rw[List.length_erase_of_mem hx] at this;have:=List.length_pos_of_mem hx;simp only[List.length_cons];omega
theorem qpZ:(qbE.all fun n=>qdn.all fun v=>qb0 (n,v)==0)=true:=by decide+kernel
theorem qrI {x:Lb} (h:x.1∈qbE∧x.2∈qdn):qb0 x=0:=by
 have:=List.all_eq_true.1 (List.all_eq_true.1 qpZ x.1 h.1) x.2 h.2;simpa using this
theorem qhO: ∀ls:List Lb,(∀x∈ls,qb0 x=0)→qaM ls=0
 | [],_=>rfl
 |x::t,h=>by
  unfold qaM;rw[if_pos (h x (List.mem_cons_self ..))];exact qhO t (fun y hy=>h y (List.mem_cons_of_mem _ hy))
theorem qf6:(qbE.all fun n=>decide (n.length≤19))=true:=by decide+kernel
theorem qii:(qdn.all fun n=>decide (n.length≤3))=true:=by decide+kernel
theorem qsn (qs:List (Nat×Nat)): ∃r,ofF (mdF qs)=(0,r)∧qaL r=true∧r.length≤16∧(∀x∈r,x.1.length≤19∧x.2.length≤10):=by
 obtain⟨h1,h2⟩:=qnH qs;have hf:=qhO (mdF qs) (fun x hx=>qrI (h2 x hx));have ht:=(qaQ _).2 h1
 have hl:(mdF qs).length≤16:=by
  have:=qkM ((mdF qs).map Prod.fst) qbE h1 (fun x hx=>by obtain⟨y,hy,rfl⟩:=List.mem_map.1 hx;exact(h2 y hy).1);rw[List.length_map] at this;exact this
 have hsl: ∀ls:List Lb,(srt ls).length=ls.length:=by
  intro ls
  induction ls with
  |nil=>rfl
  |cons x t ih=>
   have hi: ∀(x:Lb) (l:List Lb),(qjn x l).length=l.length+1:=by
    intro x l
    induction l with
    |nil=>rfl
    |cons y t ih=>unfold qjn;split<;>simp[ih]
   show(qjn x (srt t)).length=_;rw[hi,ih];rfl
 have hle:((srt (mdF qs)).filter (fun x=>!emp x)).length≤16:=by
  have:=List.length_filter_le (fun x=>!emp x) (srt (mdF qs));rw[hsl] at this;omega
 have e:ofF (mdF qs)=(0,(srt (mdF qs)).filter (fun x=>!emp x)):=by
  unfold ofF;rw[if_pos hf,ht,if_neg (by decide),if_neg (by omega)]
 obtain⟨r1,r2⟩:=qjp e;refine⟨_,e,r1,hle,fun x hx=>?_⟩;have hx2:=h2 x ((r2 x).1 hx).1;have a1:=List.all_eq_true.1 qf6 x.1 hx2.1;have a2:=List.all_eq_true.1 qii x.2 hx2.2;simp at a1 a2;exact⟨a1,by omega⟩
def upL:List (List UInt8):=[[117,112],[97],[104,116,116,112,95,116,111,116,97,108],[97,58,98],[120],[108,101],[95],[122,57]]
theorem qq4:(upL.all fun v=>qan 58 v&&qbm v&&decide (v.length≤10))=true:=by decide+kernel
theorem qiV {v:List UInt8} (h:v∈upL):qan 58 v=true∧qbm v=true∧v.length≤10:=by
 have:=List.all_eq_true.1 qq4 v h;simp at this;exact⟨this.1.1,this.1.2,this.2⟩
end Go.Proofs.YtdeimnnpcfncpaaGreatDoor.X
end
section
namespace Go.Proofs.YtdeimnnpcfncpaaGreatDoor.X
open Go Go.RowKit Go.Shelf L
attribute [local go_sem] Oper.semAt_some
def ApI (w0:World) (Bs D:Nat) (ls:List (List UInt8)) (k:Nat) (W:World):Prop:=
 (∃v,Boxed W D 42 v∧W.ownsRow (D+1) 9 1 v (ls.take k).length (qa4 (ls.take k)))∧(∃u,Boxed W Bs 9 u)∧D<W.heap.size∧Below w0.heap.size w0 W
theorem qo6 (w0:World) (Bs D:Nat) (ls:List (List UInt8)) (B:Nat) (hB:w0.heap.size≤B):OwnFrom B (ApI w0 Bs D ls):=by
 rintro k W W' row ⟨⟨v,h1,h2⟩,⟨u,h3⟩,h5,h6⟩ hg hr;have hr': ∀r,row=some r→ ∃o:Obj,W.heap[r]?=some o∧o.isCells=false:=fun r e=>(hr r e).2
 exact⟨⟨v,qao h1 hg hr',qbs h2 hg hr'⟩,⟨u,qao h3 hg hr'⟩,Nat.lt_of_lt_of_le h5 hg.size,h6.grown hg (by have:=h6.size;omega) (fun k e=>Nat.le_trans hB (hr k e).1)⟩
theorem qpo (w0:World) (Bs D:Nat) (ls:List (List UInt8)) (hBs:w0.heap.size≤Bs) (hD:Bs<D) (k:Nat) (W:World) (u:Value) (h:ApI w0 Bs D ls k W):ApI w0 Bs D ls k (W.setCell ⟨Bs,0,none⟩ u):=by
 obtain⟨⟨v,h1,h2⟩,⟨u0,h3⟩,h5,h6⟩:=h;exact⟨⟨v,h1.other (by omega) _,qak h2 (qaj W Bs 0 u) (by omega)⟩,⟨u,h3.set _⟩,by simpa using h5,h6.setCell (p:=⟨Bs,0,none⟩) hBs _⟩
theorem qiR (a b:List (List UInt8)):qa4 (a++b)=qa4 a++qa4 b:=by simp[qa4]
theorem qkL (l:List UInt8) (hll:l.length≤65536) (w0 w:World) (hG: ∀W,Below w0.heap.size w0 W→MaxG W) (hB0:Below w0.heap.size w0 w) (Bs:Nat) (hBs0:w0.heap.size≤Bs) (hBs:Bs<w.heap.size) (hBx:Boxed w Bs 9 (.string ⟨l.toArray⟩)):
 CallsIn Fence.wide 9 Tryz.prog 160 #[.slice none 0 0,.func (.func 151) #[] #[.pointer (some ⟨Bs,0,none⟩)]] w fun x W'=>(∃v,x= .returned v∧W'.ownsRow w0.heap.size 9 1 v (linesL l).length (qa4 (linesL l)))∧Below w0.heap.size w0 W':=by
 have hro:Fence.wide.round=none:=rfl;have h1:1≤9:=by omega
 obtain⟨inf,hi,hz0,hz1,hz2⟩:=info_parts qsb;refine callsIn_of_wp_marks Tryz.func160 rfl trivial ?_ hro;simp only[Tryz.ntmps160,List.size_toArray,List.length_cons,List.length_nil,Nat.reduceAdd,Nat.reduceSub,Array.replicate_succ,Array.replicate_zero,List.push_toArray,List.append_toArray,List.nil_append,List.cons_append];gi_wp2;have hkl:(linesL l).length≤l.length:=qdc l;have hD:w.heap.size<(w.alloc (.cells #[.slice none 0 0] 42)).heap.size:=by simp
 have Ba:=hB0.alloc hB0.size (.cells #[.slice none 0 0] 42);have hI0:ApI w0 Bs w.heap.size (linesL l) 0 (w.alloc (.cells #[.slice none 0 0] 42)):=⟨⟨.slice none 0 0,World.alloc_heap_new w _,⟨rfl,.inl ⟨rfl,rfl⟩⟩⟩,⟨_,(Below.heap_alloc _ _ _ hBs).trans hBx⟩,hD,Ba⟩;have hBx':Boxed (w.alloc (.cells #[.slice none 0 0] 42)) Bs 9 (.string ⟨l.toArray⟩):=(Below.heap_alloc _ _ _ hBs).trans hBx
 refine qoi hro h1 (gf:=151) (lb:=#[.pointer (some ⟨Bs,0,none⟩)]) rfl trivial (enters_of Tryz.func151 (by kernel_rfl) rfl)
  (fun k=>#[.string ⟨((linesL l).getD k []).toArray⟩]) (linesL l).length Bs (by omega) MaxG (qf7 9 Bs (by omega) l hll _ (by omega) hBx') (fun _=>rfl)
  (ApI w0 Bs w.heap.size (linesL l)) (fun _=>False) (qo6 w0 Bs w.heap.size (linesL l) _ (by omega)) (fun _ W W' row h=>h.elim) (fun k A h=>hG A h.2.2.2) (fun k A v h=>qpo w0 Bs w.heap.size (linesL l) hBs0 hBs k A v h) hI0
  (fun k=>{tmps:=List.toArray (Value.slice none 0 0::Value.func (.func 151) #[] #[.pointer (some ⟨Bs,0,none⟩)]::Value.pointer (some ⟨w.heap.size,0,none⟩)::undef::Value.slice none 0 0::Value.string ⟨((linesL l).getD k []).toArray⟩::Value.func (.func 151) #[] #[.pointer (some ⟨Bs,0,none⟩)]::Value.string ⟨((linesL l).getD k []).toArray⟩::undef::undef::undef::undef::undef::[]),defers:=[]}) ?assign ?body ?done ?stop
 case assign=>
  intro y k W K hK;gi_wp2;exact hK
 case body=>
  rintro y k W ⟨⟨v,g1,hown⟩,⟨u,g2⟩,hsz,hB⟩ hk
  have hkt:((linesL l).take (k+1))=(linesL l).take k++[(linesL l).getD k []]:=by
   rw[List.take_add_one,List.getD_eq_getElem?_getD,List.getElem?_eq_getElem hk];rfl
  have hln:((linesL l).take k).length=k:=by rw[List.length_take];omega
  obtain⟨ln,hlnq⟩: ∃ln,Hid ((linesL l).getD k []=ln):=⟨_,Lh rfl⟩;rw[hlnq.out] at hkt⊢;obtain⟨A,hA⟩: ∃A,Hid ((linesL l).take k=A):=⟨_,Lh rfl⟩;rw[hA.out] at hkt hown hln;have hkth:=Lh hkt;have f3:=g1.cell;have z3:=g1.frozen;have hownh:=Lh hown;have hBh:=Lh hB;have g1h:=Lh g1;have g2h:=Lh g2;clear hown hB g1 g2 hkt hI0 hBx hBx' hG Ba hB0;gi_wp2_with (gi_at_builtin;refine wpListIn_append_own _ rfl (.tmp 8) (.tmp 10) 42 rfl (w.heap.size+1) 9 inf (.string ⟨#[]⟩) 1 16 Tryz.underlying42 hi hz0 hz1 hz2 rfl (by decide) v A.length (qa4 A) rfl (hownh.out.alloc _) ⟨W.heap.size,0,none⟩ 1 1 [.string ⟨ln.toArray⟩] rfl rfl ?c1 ?c2 ?c3 ?c4 ?c5 ?_)
  case c1=>
   intro j u hj
   match j,hj with
   |0,hj=>simp at hj;subst hj;simp[Addr.add,go_sem]
  case c2=>intro u hu;simp at hu;rcases hu with rfl;rfl
  case c3=>unfold maxLen;omega
  case c4=>omega
  case c5=>simp;omega
  intro v2 w2 hown2 hg _;have hb: ∀b,b<w.heap.size+1→w2.heap[b]?=W.heap[b]?:=fun b hb=>(hg.block b (by simp;omega) (fun e=>by have:=(hownh.out.lt b e.symm).1;omega)).trans (Below.heap_alloc _ _ _ (by omega))
  have hkr: ∀row,v.ownBlock≠some row→row<W.heap.size→w2.heap[row]?=W.heap[row]?:=fun row hrow hlt=>(hg.block row (by simp;omega) (fun e=>hrow e.symm)).trans (Below.heap_alloc _ _ _ hlt)
  have hs2:W.heap.size≤w2.heap.size:=by have:=hg.size;simp at this;omega
  have g1':Boxed w2 w.heap.size 42 v:=(hb _ (by omega)).trans g1h.out;have g2':Boxed w2 Bs 9 u:=(hb _ (by omega)).trans g2h.out;have hB2:Below w0.heap.size w0 w2:=(hBh.out.alloc hBh.out.size _).grown hg (by simp;have:=hBh.out.size;omega) (fun k e=>by have:=(hownh.out.lt k e).1;omega);have f4:=g1'.cell;have z4:=g1'.frozen
  have hI2:Hid (ApI w0 Bs w.heap.size (linesL l) (k+1) (w2.setCell ⟨w.heap.size,0,none⟩ v2)):=Lh (by
   refine⟨⟨v2,g1'.set v2,?_⟩,⟨u,g2'.other (by omega) v2⟩,by simp;omega,hB2.setCell (p:=⟨w.heap.size,0,none⟩) (by show w0.heap.size≤w.heap.size;omega) _⟩;rw[hkth.out,List.length_append,hln,qiR]
   exact qak hown2 (qaj w2 w.heap.size 0 v2) (by omega))
  have hSame:Hid (Same Bs W (w2.setCell ⟨w.heap.size,0,none⟩ v2)):=Lh (by
   show(w2.setCell ⟨w.heap.size,0,none⟩ v2).heap[Bs]?=W.heap[Bs]?;rw[qcc v2 (by omega)]
   exact hb _ (by omega))
  have hKK:Hid (KeepsOthers W (w2.setCell ⟨w.heap.size,0,none⟩ v2)):=Lh (by
   refine⟨by simp;exact hs2,fun j o hj ho=>?_⟩;have hjl:=(Array.getElem?_eq_some_iff.1 hj).1
   rw[qcc v2 (fun e=>by
    subst e;have h1:=g1h.out;unfold Boxed at h1
    rw[h1] at hj;cases hj;cases ho)]
   refine(hkr j (fun e2=>?_) hjl).trans hj;rcases hownh.out.2 with ⟨rfl,_⟩|⟨g,cap,cur,rfl,_,h3,_⟩
   ·cases e2
   ·cases e2
    rw[hj] at h3;cases h3;cases ho)
  obtain⟨a2,c2,rfl⟩:=qac hown2;clear hb hkr g1' g2' hB2 hown2 hg f3 z3 hownh hBh g1h g2h hkth;gi_wp2;exact⟨hKK.out,hSame.out,hI2.out⟩
 case done=>
  rintro D W hD2 ⟨⟨v,g1,hown⟩,⟨u,g2⟩,hsz,hB⟩ hK;rw[List.take_of_length_le (Nat.le_refl _)] at hown;have f1:=g1.cell;have z1:=g1.frozen;obtain⟨av,cv,rfl⟩:=qac hown;have hpr: ∀r,(some D:Option Nat)=some r→ ∃o:Obj,W.heap[r]?=some o∧o.isCells=false:=fun r e=>by cases e;exact⟨_,hK,rfl⟩
  have Z1:=Boxed.cell (qao g1 (grownBy_putObj' W D (.deferred none)) hpr:Boxed (W.putObj D (.deferred none)) w.heap.size 42 (.slice av (linesL l).length cv));have EB2:=hB.trans (belowK_b (w:=w0) (Nat.le_refl _) W D _ (.deferred none) (by omega) hK rfl rfl);have EV2:=qaN (qbs hown (grownBy_putObj' W D (.deferred none)) hpr) (show w0.heap.size≤w.heap.size+1 by omega);have EVh:=Lh EV2;have EBh:=Lh EB2;have hKh:=Lh hK;have Z1h:=Lh Z1;clear EV2 EB2 hK hown hB g1 g2 hpr Z1 hI0 hBx hBx' hG;gi_wp2;refine⟨by simp,.inl ⟨_,_,rfl,run_takeDeferred hKh.out,?_⟩⟩;exact⟨.slice av (linesL l).length cv,by simp[results,Tryz.results160,go_sem],⟨_,rfl,EVh.out⟩,EBh.out⟩
 case stop=>intro D W hD h;exact h.elim
theorem collect_in (l:List UInt8) (hll:l.length≤65536) (w0 w:World) (hG: ∀W,Below w0.heap.size w0 W→MaxG W) (hB0:Below w0.heap.size w0 w) (Bs:Nat) (hBs0:w0.heap.size≤Bs) (hBs:Bs<w.heap.size) (hBx:Boxed w Bs 9 (.string ⟨l.toArray⟩)):
 CallsIn Fence.wide 10 Tryz.prog 91 #[.func (.func 151) #[] #[.pointer (some ⟨Bs,0,none⟩)]] w fun x W'=>(∃v,x= .returned v∧W'.ownsRow w0.heap.size 9 1 v (linesL l).length (qa4 (linesL l)))∧Below w0.heap.size w0 W':=by
 have hro:Fence.wide.round=none:=rfl;have c:=Lh (qkL l hll w0 w hG hB0 Bs hBs0 hBs hBx);clear hG hBx;refine callsIn_of_wp Tryz.func91 rfl trivial ?_ hro;simp only[Tryz.ntmps91,List.size_toArray,List.length_cons,List.length_nil,Nat.reduceAdd,Nat.reduceSub,Array.replicate_succ,Array.replicate_zero,List.push_toArray,List.append_toArray,List.nil_append,List.cons_append];gi_wp2_with (refine⟨trivial,?_⟩;gi_at_call 160;refine c.out.mono ?_;rintro e w' ⟨⟨v,rfl,hown⟩,hb⟩);have R:=Lh (show(∃u,Ending.returned v= .returned u∧w'.ownsRow w0.heap.size 9 1 u (linesL l).length (qa4 (linesL l)))∧Below w0.heap.size w0 w' from⟨⟨v,rfl,hown⟩,hb⟩);obtain⟨av,cv,rfl⟩:=qac hown;clear hown hb c;gi_wp2;go_ret;exact R.out
theorem qmA (l:List UInt8) (hll:l.length≤65536) (w:World) (hG:EGlb w):
 Calls Tryz.prog 34 #[.string (BS l)] w fun x W'=>(∃v,x= .returned v∧W'.ownsRow w.heap.size 9 1 v (linesL l).length (qa4 (linesL l)))∧Below w.heap.size w W':=by
 have hro:Fence.wide.round=none:=rfl;have hM: ∀W,Below w.heap.size w W→MaxG W:=fun W hb=>qjX hG hb
 have Ba:Below w.heap.size w (w.alloc (.cells #[.string (BS l)] 9)):=(Below.refl _ _).alloc (Nat.le_refl _) _;have c:=Lh (collect_in l hll w (w.alloc (.cells #[.string (BS l)] 9)) hM Ba w.heap.size (Nat.le_refl _) (by simp) (World.alloc_heap_new w _));clear hG hM Ba;refine(callsIn_wide (n:=11)).1 ?_;refine callsIn_of_wp Tryz.func34 rfl trivial ?_ hro;simp only[Tryz.ntmps34,List.size_toArray,List.length_cons,List.length_nil,Nat.reduceAdd,Nat.reduceSub,Array.replicate_succ,Array.replicate_zero,List.push_toArray,List.append_toArray,List.nil_append,List.cons_append];gi_wp2_with (refine⟨trivial,?_⟩;gi_at_call 88;refine(qhz 10 _ _).mono ?_;rintro e w' ⟨rfl,rfl⟩);gi_wp2_with (refine⟨trivial,?_⟩;gi_at_call 91;refine c.out.mono ?_;rintro e w' ⟨⟨v,rfl,hown⟩,hb⟩);have R:=Lh (show(∃u,Ending.returned v= .returned u∧w'.ownsRow w.heap.size 9 1 u (linesL l).length (qa4 (linesL l)))∧Below w.heap.size w w' from⟨⟨v,rfl,hown⟩,hb⟩);obtain⟨av,cv,rfl⟩:=qac hown;clear hown hb c;gi_wp2;go_ret;exact R.out
end Go.Proofs.YtdeimnnpcfncpaaGreatDoor.X
end
