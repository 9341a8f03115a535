/- Parts of the proof: T4. -/
import Derived.Test.YtdeimnnpcfncpaaGreatDoorCY41
import Derived.Test.YtdeimnnpcfncpaaGreatDoorCY44
set_option linter.unusedVariables false
set_option linter.unusedSimpArgs false
set_option maxRecDepth 100000
set_option maxHeartbeats 64000000
namespace Go.Proofs.YtdeimnnpcfncpaaGreatDoor.X
open Go Go.RowKit
def qbz:List (List UInt8):=[[97],[98],[99],[106,111,98],[105,110,115,116,97,110,99,101],[95,95,110,97,109,101,95,95],[95,95,97,100,100,114,101,115,115,95,95],[95,95,109,101,116,97,95,120],[101,120,112,111,114,116,101,100,95,97],[101,120,112,111,114,116,101,100,95,98],[101,120,112,111,114,116,101,100,95,106,111,98],[101,120,112,111,114,116,101,100,95,101,120,112,111,114,116,101,100,95,97],[108,101],[65],[95],[120,57]]
def qdq:List (List UInt8):=[[],[49],[50],[195,169],[117,112],[97,32,98],[10],[57]]
def mkL (q:Nat×Nat):Lb:=(qbz.getD (q.1%16) [],qdq.getD (q.2%8) [])
def mdS (out:List Lb) (y:Lb):List Lb:=out.eraseP (fun x=>x.1==y.1)++[y]
def mdF (qs:List (Nat×Nat)):List Lb:=(qs.take 40).foldl (fun out q=>mdS out (mkL q)) []
def qph (w:World) (v:Value) (qs:List (Nat×Nat)):Prop:=
 (∃a c,v= .slice a 0 c∧qs=[])∨
 ∃b off cap,v= .slice (some ⟨b,off,none⟩) qs.length cap∧b<w.heap.size∧qs.length≤cap∧cap≤maxLen∧
  ∀i,i<qs.length→(w.cell? ⟨b,off+i*2,none⟩=some (.int .u8 ((qs.getD i (0,0)).1:Int))∧w.cell? ⟨b,off+i*2+1,none⟩=some (.int .u8 ((qs.getD i (0,0)).2:Int)))∧(qs.getD i (0,0)).1<256∧(qs.getD i (0,0)).2<256
theorem qph.on {w W:World} {v:Value} {qs:List (Nat×Nat)} (h:qph w v qs) (hb:Below w.heap.size w W):qph W v qs:=by
 rcases h with h|⟨b,off,cap,h1,h2,h3,h4,h5⟩
 ·exact .inl h
 ·exact .inr ⟨b,off,cap,h1,Nat.lt_of_lt_of_le h2 hb.size,h3,h4,fun i hi=>⟨⟨(hb.cell (p:=⟨b,off+i*2,none⟩) h2).trans (h5 i hi).1.1,(hb.cell (p:=⟨b,off+i*2+1,none⟩) h2).trans (h5 i hi).1.2⟩,(h5 i hi).2⟩⟩
theorem qeG (c:List UInt8): ∀(ls:List Lb) (j:Nat),j<ls.length→(∀x∈ls.take j,(x.1==c)=false)→((ls.getD j lb0).1==c)=true→ls.eraseP (fun x=>x.1==c)=ls.eraseIdx j
 | [],j,h,_,_=>by simp at h
 |x::r,0,_,_,h=>by rw[List.eraseP_cons_of_pos (by simpa using h)];rfl
 |x::r,j+1,h,h1,h2=>by
  have hx:=h1 x (by simp);rw[List.eraseP_cons_of_neg (by simp[hx]),List.eraseIdx_cons_succ,qeG c r j (by simpa using h) (fun y hy=>h1 y (by simp[hy])) (by simpa using h2)]
theorem qrJ {ls:List Lb} {j:Nat} {x1 x2:List UInt8} (hj:j<ls.length) (h1: ∀x∈ls.take j,(x.1==x1)=false) (h2:((ls.getD j lb0).1==x1)=true):mdS ls (x1,x2)=ls.eraseIdx j++[(x1,x2)]:=by
 unfold mdS;rw[qeG x1 ls j hj h1 h2]
theorem qpw {ls:List Lb} {x1 x2:List UInt8} (h1: ∀x∈ls.take ls.length,(x.1==x1)=false):mdS ls (x1,x2)=ls++[(x1,x2)]:=by
 unfold mdS;rw[List.eraseP_of_forall_not (fun x hx=>by rw[List.take_length] at h1;simp[h1 x hx])]
theorem qjA {qs:List (Nat×Nat)} {i:Nat} {ls:List Lb} {q:Nat×Nat} (hi:i<qs.length) (hq:qs.getD i (0,0)=q) (h:ls=(qs.take i).foldl (fun out q=>mdS out (mkL q)) []):mdS ls (mkL q)=(qs.take (i+1)).foldl (fun out q=>mdS out (mkL q)) []:=by
 have e:qs[i]=q:=by rw[←hq];simp[List.getD_eq_getElem?_getD,hi]
 rw[List.take_add_one,List.getElem?_eq_getElem hi,List.foldl_append,←h,e];rfl
theorem ql2 (w:World):Calls Tryz.prog 105 #[] w fun e w'=>(∃b:Nat,e= .returned (.slice (some ⟨b,0,none⟩) 16 16)∧qcN w' b qbz)∧Below w.heap.size w w':=by
 have hT:=Lh (qcg w qbz);go_enter Tryz.func105,Tryz.ntmps105;go_wp2_with fail;go_ret;exact⟨⟨w.heap.size,rfl,hT.out⟩,(Below.refl _ _).alloc (Nat.le_refl _) _⟩
def QB (D:Nat) (q:Nat×Nat) (W:World):Prop:=W.heap[D]?=some (.cells #[.int .u8 (q.1:Int),.int .u8 (q.2:Int)] 166 (0,0))
theorem QB.lt {D:Nat} {q:Nat×Nat} {W:World} (h:QB D q W):D<W.heap.size:=(Array.getElem?_eq_some_iff.1 h).1
theorem QB.on {D:Nat} {q:Nat×Nat} {W W':World} (h:QB D q W) (hb:Below W.heap.size W W'):QB D q W':=(hb.block D h.lt).trans h
theorem QB.c0 {D:Nat} {q:Nat×Nat} {W:World} (h:QB D q W):W.cell? ⟨D,0,none⟩=some (.int .u8 (q.1:Int)):=by rw[Lib.cell_of_heap h];rfl
theorem QB.c1 {D:Nat} {q:Nat×Nat} {W:World} (h:QB D q W):W.cell? ⟨D,1,none⟩=some (.int .u8 (q.2:Int)):=by rw[Lib.cell_of_heap h];rfl
theorem qtK (args:Array Value) (w:World):(callFunc 105 args).run Tryz.prog w= .ok (.enter 105 args) w:=enters_of Tryz.func105 (by kernel_rfl) rfl args w
theorem qtJ {D:Nat} {a b:List UInt8} {w:World} (x1 x2:List UInt8) (h:LB 44 D a b w):(Instr.storeAt 44 (.pointer (some ⟨D,0,none⟩)) (.agg #[.string (BS x1),.string (BS x2)])).run Tryz.prog w= .ok () ((w.setCell ⟨D,0,none⟩ (.string (BS x1))).setCell ⟨D,1,none⟩ (.string (BS x2))):=by
 have h0:=h.c0;have h1:=h.c1;have z0:=h.fz 0;have z1:=h.fz 1;have h2:=(h.set0 x1).c1;have z2:=(h.set0 x1).fz 1;simp[go_sem,h0,h1,z0,z1,h2,z2]
theorem qgX {P:Program} {ops:Array Oper} {Q:Exit→Act→World→Prop} {a:Act} {w:World} {K:Act→World→Prop} {i:Nat} {o:Oper} {x y:Operand} {t:TypeId} {v p:Value} {w':World} (ho:ops[i]?=some o) (hm:Met ops a o) (hd:o.dst=none) (hop:o.op= .store t x y) (hx:a.eval x=p) (hy:a.eval y=v)
 (hr:(Instr.storeAt t p v).run P w= .ok () w') (hk:K a w'):wpOp P ops Q i K a w:=by
 unfold Met at hm;unfold wpOp;simp only[ho,hm,if_true];left;unfold Oper.wp
 have:(execOp a.eval o).run P w= .ok .skip w':=by
  simp[execOp,hop,hx,hy,hr,Result.andThen]
 rw[this];have e:a.put o.dst undef=a:=by rw[hd];rfl
 show K (a.put o.dst undef) w';rw[e];exact hk
def qs0 (qs:List (Nat×Nat)) (w:World) (e:Ending) (w':World):Prop:=
 ∃v,e= .returned v∧w'.ownsRow w.heap.size 44 2 v (mdF qs).length (qaa (mdF qs))∧Below w.heap.size w w'∧(mdF qs).length≤40∧(mdF qs≠[]∨v= .slice none 0 0)
theorem qiS (qs:List (Nat×Nat)) (w:World) (a:Option Addr) (n c:Nat) (hr:qph w (.slice a n c) qs) (hn:n=qs.length) (hl:n≤9223372036854775807) (hcn:n≤c):Calls Tryz.prog 44 #[.slice a n c] w (qs0 qs w):=by
 obtain⟨k,hk⟩: ∃k:Nat,k=min n 40:=⟨_,rfl⟩;have hkm:min (n:Int) 40=(k:Int):=by omega
 have hkn:k≤n:=by omega
 have hk40:k≤40:=by omega
 have hkc:decide (k≤c)=true:=dT (by omega);have hrh:=Lh hr;have hnh:=Lh hn;have hkh:=Lh hk;clear hk hr hn;go_enter Tryz.func44,Tryz.ntmps44;go_wp2_with fail;go_loopg [3,14] (k+1) (fun gk s3 s14 wx=> ∃(i:Nat) (ls:List Lb) (a3:Option Addr) (c3:Nat),i≤k∧k - i<gk∧s14= .int .i64 (i:Int)∧s3= .slice a3 ls.length c3∧ls.length≤i∧Hid (Below w.heap.size w wx)∧Hid (wx.ownsRow w.heap.size 44 2 s3 ls.length (qaa ls))∧Hid (ls=(qs.take i).foldl (fun out q=>mdS out (mkL q)) [])∧Hid (ls≠[]∨s3= .slice none 0 0))
 case atStart=>exact⟨0,[],none,0,by omega,by omega,by go_num,rfl,by simp,Lh (Below.refl _ _),Lh (qd8 _ _),Lh rfl,Lh (.inr rfl)⟩
 case round=>
  obtain⟨i,ls,a3,c3,hi,hgk,rfl,rfl,hll,B,own,hfold,hnil⟩:=hrel;obtain⟨gk0,hg0⟩: ∃g,g=gk:=⟨_,rfl⟩;subst hg0
  by_cases hlt:i<k
  ·have hil:i<qs.length:=by rw[←hnh.out];omega
   obtain⟨b,off,rfl,y1,y2,q1,q2⟩: ∃b off,a=some ⟨b,off,none⟩∧wr.cell? ⟨b,off+i*2,none⟩=some (.int .u8 ((qs.getD i (0,0)).1:Int))∧wr.cell? ⟨b,off+i*2+1,none⟩=some (.int .u8 ((qs.getD i (0,0)).2:Int))∧(qs.getD i (0,0)).1<256∧(qs.getD i (0,0)).2<256:=by
    rcases hrh.out with ⟨_,_,h1,h2⟩|⟨b,off,cap,h1,h2,h3,h4,h5⟩
    ·rw[h2] at hil;simp at hil
    ·injection h1 with h6 _ _
     exact⟨b,off,h6,(B.out.cell (p:=⟨b,off+i*2,none⟩) h2).trans (h5 i hil).1.1,(B.out.cell (p:=⟨b,off+i*2+1,none⟩) h2).trans (h5 i hil).1.2,(h5 i hil).2⟩
   obtain⟨q,hq⟩: ∃q,qs.getD i (0,0)=q:=⟨_,rfl⟩;rw[hq] at y1 y2 q1 q2;have hqh:=Lh hq;have u2:decide ((i:Int)<(k:Int))=true:=dT (by omega);have u3:decide (i<k)=true:=dT hlt;have N5:QB wr.heap.size q (wr.alloc (.cells #[.int .u8 (q.1:Int),.int .u8 (q.2:Int)] 166)):=World.alloc_heap_new _ _;go_upto_region 5 with (fail)
   obtain⟨w1,hw1⟩: ∃w1,wr.alloc (.cells #[.int .u8 (q.1:Int),.int .u8 (q.2:Int)] 166)=w1:=⟨_,rfl⟩;obtain⟨q5,hq5⟩: ∃q5,wr.heap.size=q5:=⟨_,rfl⟩;rw[hw1,hq5] at N5;rw[hw1]
   try rw[hq5]
   have N5h:=Lh N5;have hm16:q.1%16<16:=Nat.mod_lt _ (by decide);have hm8:q.2%8<8:=Nat.mod_lt _ (by decide);have e16:((q.1:Int)%16)=((q.1%16:Nat):Int):=by omega
   have e8:((q.2:Int)%8)=((q.2%8:Nat):Int):=by omega
   obtain⟨x1,hx1⟩: ∃x,qbz.getD (q.1%16) []=x:=⟨_,rfl⟩;obtain⟨x2,hx2⟩: ∃x,qdq.getD (q.2%8) []=x:=⟨_,rfl⟩;have own1:=Lh (show w1.ownsRow w.heap.size 44 2 (.slice a3 ls.length c3) ls.length (qaa ls)from by rw[←hw1];exact qah own.out ((Below.refl _ _).alloc (Nat.le_refl _) _));have B1:=Lh (show Below w.heap.size w w1 from by rw[←hw1];exact B.out.alloc B.out.size _);clear hw1 hq5 N5 own B y1 y2 hq
   refine qb8 14 (fun ix v W=>match ix with|0=>(∃b:Nat,v= .slice (some ⟨b,0,none⟩) 16 16∧qcN W b qbz)|1=>v= .pointer (some ⟨q5,0,none⟩)|2=>v= .int .u8 (q.1:Int)|3=>v= .int .u8 ((q.1%16:Nat):Int)|4=>(∃p:Addr,v= .pointer (some p)∧W.cell? p=some (.string (BS x1))∧p.block<W.heap.size)|5=>v= .string (BS x1)|6=>(∃b:Nat,v= .slice (some ⟨b,0,none⟩) 8 8∧qcN W b qdq)|7=>v= .pointer (some ⟨q5,1,none⟩)|8=>v= .int .u8 (q.2:Int)|9=>v= .int .u8 ((q.2%8:Nat):Int)|10=>(∃p:Addr,v= .pointer (some p)∧W.cell? p=some (.string (BS x2))∧p.block<W.heap.size)|11=>v= .string (BS x2)|12=>v= .agg #[.string (BS x1),.string (BS x2)]|_=>(∃D:Nat,v= .pointer (some ⟨D,0,none⟩)∧LB 44 D [] [] W∧w1.heap.size≤D))
    rfl (by kernel_rfl) (by kernel_rfl) (by decide+kernel) (by kernel_rfl) (by kernel_rfl) (by intro ix v A B h hb;rcases ix with _|_|_|_|_|_|_|_|_|_|_|_|_|_|ix<;>first|exact h|(obtain⟨N,e,g⟩:=h;exact⟨N,e,g.on hb⟩)|(obtain⟨p,e,g,k⟩:=h;exact⟨p,e,(hb.cell (p:=p) k).trans g,Nat.lt_of_lt_of_le k hb.size⟩)|(obtain⟨D,e,g,k⟩:=h;exact⟨D,e,g.on hb,k⟩)) ?_ ?_
   ·intro ix hix;rcases ix with _|_|_|_|_|_|_|_|_|_|_|_|_|_|ix
    all_goals try (exfalso;omega)
    all_goals clear hix
    all_goals intro o ho a wa hba hout hsz hpre
    all_goals cases ho
    all_goals have q5':a.tmps.getD 5 undef= .pointer (some ⟨q5,0,none⟩):=(hout 5 (by decide+kernel)).trans rfl
    all_goals clear hout hsz
    ·refine qbw rfl (qab rfl) #[] (by simp) (qtK _ _) ((ql2 wa).mono ?_);rintro e w' ⟨⟨b,rfl,hT⟩,hb⟩;exact⟨_,rfl,_,rfl,hb,_,rfl,hT⟩
    ·exact qbG rfl (qab rfl) rfl q5' (r:= .pointer (some ⟨q5,0,none⟩)) (by simp[go_sem]) ⟨_,rfl,Below.refl _ _,rfl⟩
    ·have p19:a.tmps.getD 19 undef= .pointer (some ⟨q5,0,none⟩):=hpre ⟨1,.data⟩ (by simp) rfl _ rfl;have h0:=(N5h.out.on hba).c0;exact qaS rfl (qab rfl) rfl p19 (by simp[go_sem,h0]) ⟨_,rfl,Below.refl _ _,rfl⟩
    ·have p20:a.tmps.getD 20 undef= .int .u8 (q.1:Int):=hpre ⟨2,.data⟩ (by simp) rfl _ rfl;exact qat rfl (qab rfl) rfl p20 rfl (r:= .int .u8 ((q.1%16:Nat):Int)) (w':=wa) (by simp[go_sem];exact Int.tmod_eq_emod_of_nonneg (by omega)) ⟨_,rfl,Below.refl _ _,rfl⟩
    ·have p18:(∃b:Nat,(a.tmps.getD 18 undef)= .slice (some ⟨b,0,none⟩) 16 16∧qcN wa b qbz):=hpre ⟨0,.data⟩ (by simp) rfl _ rfl;have p21:a.tmps.getD 21 undef= .int .u8 ((q.1%16:Nat):Int):=hpre ⟨3,.data⟩ (by simp) rfl _ rfl;obtain⟨b,hb1,hb2⟩:=p18;have hi:=hm16;have hcell:=hb2.2 (q.1%16) (by show _<16;omega);rw[hx1] at hcell;have t1:decide (((q.1%16:Nat):Int)<16)=true:=dT (by omega);have t2:decide ((0:Int)≤((q.1%16:Nat):Int))=true:=dT (by omega);have t3:decide (q.1%16<16)=true:=dT (by omega);generalize q.1%16=z at*;exact qav rfl (qab rfl) (v:= .pointer (some ⟨b,z,none⟩)) (w':=wa) (by simp only[Array.getD_eq_getD_getElem?] at hb1 p21;simp[execOp,hb1,p21,go_sem,t1,t2,t3];intro h;omega) ⟨_,rfl,Below.refl _ _,_,rfl,hcell,hb2.1⟩
    ·have p22:(∃p:Addr,(a.tmps.getD 22 undef)= .pointer (some p)∧wa.cell? p=some (.string (BS x1))∧p.block<wa.heap.size):=hpre ⟨4,.data⟩ (by simp) rfl _ rfl;obtain⟨p,hp1,hp2,_⟩:=p22;exact qaS rfl (qab rfl) rfl hp1 (by simp[go_sem,hp2]) ⟨_,rfl,Below.refl _ _,rfl⟩
    ·exact qav rfl (qab rfl) (v:= .slice (some ⟨wa.heap.size,0,none⟩) 8 8) (w':=wa.alloc (.cells #[.string ⟨#[]⟩,.string ⟨#[49]⟩,.string ⟨#[50]⟩,.string ⟨#[195,169]⟩,.string ⟨#[117,112]⟩,.string ⟨#[97,32,98]⟩,.string ⟨#[10]⟩,.string ⟨#[57]⟩] 9)) (by simp[execOp,go_sem]) ⟨_,rfl,(Below.refl _ _).alloc (Nat.le_refl _) _,_,rfl,qcg wa qdq⟩
    ·exact qbG rfl (qab rfl) rfl q5' (r:= .pointer (some ⟨q5,1,none⟩)) (by simp[go_sem]) ⟨_,rfl,Below.refl _ _,rfl⟩
    ·have p25:a.tmps.getD 25 undef= .pointer (some ⟨q5,1,none⟩):=hpre ⟨7,.data⟩ (by simp) rfl _ rfl;have h0:=(N5h.out.on hba).c1;exact qaS rfl (qab rfl) rfl p25 (by simp[go_sem,h0]) ⟨_,rfl,Below.refl _ _,rfl⟩
    ·have p26:a.tmps.getD 26 undef= .int .u8 (q.2:Int):=hpre ⟨8,.data⟩ (by simp) rfl _ rfl;exact qat rfl (qab rfl) rfl p26 rfl (r:= .int .u8 ((q.2%8:Nat):Int)) (w':=wa) (by simp[go_sem];exact Int.tmod_eq_emod_of_nonneg (by omega)) ⟨_,rfl,Below.refl _ _,rfl⟩
    ·have p24:(∃b:Nat,(a.tmps.getD 24 undef)= .slice (some ⟨b,0,none⟩) 8 8∧qcN wa b qdq):=hpre ⟨6,.data⟩ (by simp) rfl _ rfl;have p27:a.tmps.getD 27 undef= .int .u8 ((q.2%8:Nat):Int):=hpre ⟨9,.data⟩ (by simp) rfl _ rfl;obtain⟨b,hb1,hb2⟩:=p24;have hi:=hm8;have hcell:=hb2.2 (q.2%8) (by show _<8;omega);rw[hx2] at hcell;have t1:decide (((q.2%8:Nat):Int)<8)=true:=dT (by omega);have t2:decide ((0:Int)≤((q.2%8:Nat):Int))=true:=dT (by omega);have t3:decide (q.2%8<8)=true:=dT (by omega);generalize q.2%8=z at*;exact qav rfl (qab rfl) (v:= .pointer (some ⟨b,z,none⟩)) (w':=wa) (by simp only[Array.getD_eq_getD_getElem?] at hb1 p27;simp[execOp,hb1,p27,go_sem,t1,t2,t3];intro h;omega) ⟨_,rfl,Below.refl _ _,_,rfl,hcell,hb2.1⟩
    ·have p28:(∃p:Addr,(a.tmps.getD 28 undef)= .pointer (some p)∧wa.cell? p=some (.string (BS x2))∧p.block<wa.heap.size):=hpre ⟨10,.data⟩ (by simp) rfl _ rfl;obtain⟨p,hp1,hp2,_⟩:=p28;exact qaS rfl (qab rfl) rfl hp1 (by simp[go_sem,hp2]) ⟨_,rfl,Below.refl _ _,rfl⟩
    ·have p23:a.tmps.getD 23 undef= .string (BS x1):=hpre ⟨5,.data⟩ (by simp) rfl _ rfl;have p29:a.tmps.getD 29 undef= .string (BS x2):=hpre ⟨11,.data⟩ (by simp) rfl _ rfl;exact qav rfl (qab rfl) (v:= .agg #[.string (BS x1),.string (BS x2)]) (w':=wa) (by simp only[Array.getD_eq_getD_getElem?] at p23 p29;simp[execOp,p23,p29,go_sem]) ⟨_,rfl,Below.refl _ _,rfl⟩
    ·exact qav rfl (qab rfl) (v:= .pointer (some ⟨wa.heap.size,0,none⟩)) (w':=wa.alloc (.cells #[.string ⟨#[]⟩,.string ⟨#[]⟩] 44)) (by simp[execOp,go_sem]) ⟨_,rfl,(Below.refl _ _).alloc (Nat.le_refl _) _,_,rfl,World.alloc_heap_new wa _,hba.size⟩
   ·intro a wa hba hF ha;have f0:(∃b:Nat,(a.tmps.getD 18 undef)= .slice (some ⟨b,0,none⟩) 16 16∧qcN wa b qbz):=hF 0 (by decide) _ rfl;have f1:a.tmps.getD 19 undef= .pointer (some ⟨q5,0,none⟩):=hF 1 (by decide) _ rfl;have f2:a.tmps.getD 20 undef= .int .u8 (q.1:Int):=hF 2 (by decide) _ rfl;have f3:a.tmps.getD 21 undef= .int .u8 ((q.1%16:Nat):Int):=hF 3 (by decide) _ rfl;have f4:(∃p:Addr,(a.tmps.getD 22 undef)= .pointer (some p)∧wa.cell? p=some (.string (BS x1))∧p.block<wa.heap.size):=hF 4 (by decide) _ rfl;have f5:a.tmps.getD 23 undef= .string (BS x1):=hF 5 (by decide) _ rfl;have f6:(∃b:Nat,(a.tmps.getD 24 undef)= .slice (some ⟨b,0,none⟩) 8 8∧qcN wa b qdq):=hF 6 (by decide) _ rfl;have f7:a.tmps.getD 25 undef= .pointer (some ⟨q5,1,none⟩):=hF 7 (by decide) _ rfl;have f8:a.tmps.getD 26 undef= .int .u8 (q.2:Int):=hF 8 (by decide) _ rfl;have f9:a.tmps.getD 27 undef= .int .u8 ((q.2%8:Nat):Int):=hF 9 (by decide) _ rfl;have f10:(∃p:Addr,(a.tmps.getD 28 undef)= .pointer (some p)∧wa.cell? p=some (.string (BS x2))∧p.block<wa.heap.size):=hF 10 (by decide) _ rfl;have f11:a.tmps.getD 29 undef= .string (BS x2):=hF 11 (by decide) _ rfl;have f12:a.tmps.getD 30 undef= .agg #[.string (BS x1),.string (BS x2)]:=hF 12 (by decide) _ rfl;have f13:(∃D:Nat,(a.tmps.getD 6 undef)= .pointer (some ⟨D,0,none⟩)∧LB 44 D [] [] wa∧w1.heap.size≤D):=hF 13 (by decide) _ rfl;clear hF;obtain⟨fv0,hu0⟩: ∃u,u=a.tmps.getD 18 undef:=⟨_,rfl⟩;rw[←hu0] at f0;obtain⟨fv4,hu4⟩: ∃u,u=a.tmps.getD 22 undef:=⟨_,rfl⟩;rw[←hu4] at f4;obtain⟨fv6,hu6⟩: ∃u,u=a.tmps.getD 24 undef:=⟨_,rfl⟩;rw[←hu6] at f6;obtain⟨fv10,hu10⟩: ∃u,u=a.tmps.getD 28 undef:=⟨_,rfl⟩;rw[←hu10] at f10;obtain⟨fv13,hu13⟩: ∃u,u=a.tmps.getD 6 undef:=⟨_,rfl⟩;rw[←hu13] at f13;simp only[List.take,List.foldl,qap,←hu0,f1,f2,f3,←hu4,f5,←hu6,f7,f8,f9,←hu10,f11,f12,←hu13] at ha;clear f1 f2 f3 f5 f7 f8 f9 f11 f12 hu0 hu4 hu6 hu10 hu13;subst ha;simp only[Act.put,List.setIfInBounds_toArray,List.set_cons_succ,List.set_cons_zero];obtain⟨D,rfl,LD,hDge⟩:=f13;refine qgX rfl (qab rfl) rfl rfl rfl rfl (qtJ x1 x2 LD) ?_;have LE:LB 44 D x1 x2 _:=(LD.set0 x1).set1 x2;obtain⟨w2,hw2⟩: ∃x,(wa.setCell ⟨D,0,none⟩ (.string (BS x1))).setCell ⟨D,1,none⟩ (.string (BS x2))=x:=⟨_,rfl⟩;have B2:Below w1.heap.size w1 w2:=by rw[←hw2];exact(hba.setCell hDge _).setCell hDge _
    rw[hw2] at LE⊢;have hQE:mkL q=(x1,x2):=by unfold mkL;rw[hx1,hx2]
    have LEh:=Lh LE;have B2h:=Lh B2;have own2:=Lh (qah own1.out B2);clear f0 f4 f6 f10 LD hba hw2 LE B2 hx1 hx2 hm16 hm8 e16 e8 N5h;have hllh:=Lh hll;go_wp2_with fail;go_loopg [3,33] (ls.length+1) (fun gk s3 s33 wx=> ∃j:Nat,j≤ls.length∧ls.length - j<gk∧s33= .int .i64 (j:Int)∧s3= .slice a3 ls.length c3∧Hid (LB 44 D x1 x2 wx)∧Hid (Below w1.heap.size w1 wx)∧Hid (wx.ownsRow w.heap.size 44 2 (.slice a3 ls.length c3) ls.length (qaa ls))∧Hid (∀x∈ls.take j,(x.1==x1)=false))
    case atStart=>exact⟨0,by omega,by omega,by go_num,rfl,LEh,B2h,own2,Lh (by simp)⟩
    case round=>
     clear LEh B2h own2;obtain⟨j,hj,hgj,rfl,rfl,LEh,B2h,own2,hne⟩:=hrel;have R3:=Lh (qaN.of_owned own2.out)
     by_cases hjl:j<ls.length
     ·obtain⟨b3,o3,rfl,hb3,r1,_⟩:=R3.out.at' j hjl;have e0:=LEh.out.c0;obtain⟨x,hx⟩: ∃x,ls.getD j lb0=x:=⟨_,rfl⟩;rw[hx] at r1;have u4:decide ((j:Int)<(ls.length:Int))=true:=dT (by omega);have u5':decide (j<ls.length)=true:=dT hjl;go_wp2_with fail;have hD2:D<wr.heap.size:=LEh.out.lt;go_quiet (fail);have LE3:=Lh (show LB 44 D x1 x2 (wr.drewN nq)from LEh.out);have B3:=Lh (show Below w1.heap.size w1 (wr.drewN nq)from bq B2h.out nq);have own3:=Lh (show(wr.drewN nq).ownsRow w.heap.size 44 2 (.slice (some ⟨b3,o3,none⟩) ls.length c3) ls.length (qaa ls)from own2.out);clear LEh B2h own2 R3 r1 e0
      by_cases he:(x.1==x1)=true
      ·have he':((BS x.1).toList==(BS x1).toList)=true:=by rw[qad,qad];exact he
       rw[he'];go_upto_region 10 with (fail)
       obtain⟨_,hlc,_,_⟩:=qfY own3.out;have hll2:=hllh.out;obtain⟨a2,n2,c2,hT⟩: ∃a2 n2 c2,Value.slice a2 n2 c2=sliced (some ⟨b3,o3,none⟩) (j+1) ls.length c3 2:=⟨_,_,_,rfl⟩
       refine qb8 9 (fun ix v W=>match ix with|0=>v= .slice (some ⟨b3,o3,none⟩) ls.length c3|1=>v= .int .i64 (j:Int)|2=>v= .int .i64 (j:Int)|3=>v= .slice (some ⟨b3,o3,none⟩) j j|4=>v= .slice (some ⟨b3,o3,none⟩) ls.length c3|5=>v= .int .i64 (j:Int)|6=>v= .int .i64 ((j:Int)+1)|7=>v= .slice a2 n2 c2|_=>qok w.heap.size W v (ls.eraseIdx j))
        rfl (by kernel_rfl) (by kernel_rfl) (by decide+kernel) (by kernel_rfl) (by kernel_rfl) (by intro ix v A B h hb;rcases ix with _|_|_|_|_|_|_|_|ix<;>first|exact h|exact h.on hb) ?_ ?_
       ·intro ix hix;rcases ix with _|_|_|_|_|_|_|_|_|ix
        all_goals try (exfalso;omega)
        all_goals clear hix
        all_goals intro o ho a wa hba hout hsz hpre
        all_goals cases ho
        all_goals have q3:a.tmps.getD 3 undef= .slice (some ⟨b3,o3,none⟩) ls.length c3:=(hout 3 (by decide+kernel)).trans rfl
        all_goals have q7:a.tmps.getD 7 undef= .int .i64 (j:Int):=(hout 7 (by decide+kernel)).trans rfl
        all_goals clear hout hsz
        ·exact qal rfl (qab rfl) (.inl rfl) ⟨_,rfl,Below.refl _ _,q3⟩
        ·exact qal rfl (qab rfl) (.inl rfl) ⟨_,rfl,Below.refl _ _,q7⟩
        ·exact qal rfl (qab rfl) (.inl rfl) ⟨_,rfl,Below.refl _ _,q7⟩
        ·have p44:a.tmps.getD 44 undef= .slice (some ⟨b3,o3,none⟩) ls.length c3:=hpre ⟨0,.data⟩ (by simp) rfl _ rfl;have p45:a.tmps.getD 45 undef= .int .i64 (j:Int):=hpre ⟨1,.data⟩ (by simp) rfl _ rfl;have p46:a.tmps.getD 46 undef= .int .i64 (j:Int):=hpre ⟨2,.data⟩ (by simp) rfl _ rfl;exact qav rfl (qab rfl) (v:= .slice (some ⟨b3,o3,none⟩) j j) (w':=wa) (qtP rfl p44 p45 p46 (by omega)) ⟨_,rfl,Below.refl _ _,rfl⟩
        ·exact qal rfl (qab rfl) (.inl rfl) ⟨_,rfl,Below.refl _ _,q3⟩
        ·exact qal rfl (qab rfl) (.inl rfl) ⟨_,rfl,Below.refl _ _,q7⟩
        ·have p49:a.tmps.getD 49 undef= .int .i64 (j:Int):=hpre ⟨5,.data⟩ (by simp) rfl _ rfl;exact qat rfl (qab rfl) rfl p49 rfl (r:= .int .i64 ((j:Int)+1)) (w':=wa) (by simp[go_sem];rw[IntKind.wrap_i64];omega) ⟨_,rfl,Below.refl _ _,rfl⟩
        ·have p48:a.tmps.getD 48 undef= .slice (some ⟨b3,o3,none⟩) ls.length c3:=hpre ⟨4,.data⟩ (by simp) rfl _ rfl;have p50:a.tmps.getD 50 undef= .int .i64 ((j:Int)+1):=hpre ⟨6,.data⟩ (by simp) rfl _ rfl;exact qav rfl (qab rfl) (v:= .slice a2 n2 c2) (w':=wa) (by rw[hT];exact qtC rfl p48 p50 hjl) ⟨_,rfl,Below.refl _ _,rfl⟩
        ·have p47:a.tmps.getD 47 undef= .slice (some ⟨b3,o3,none⟩) j j:=hpre ⟨3,.data⟩ (by simp) rfl _ rfl;have p51:a.tmps.getD 51 undef= .slice a2 n2 c2:=hpre ⟨7,.data⟩ (by simp) rfl _ rfl;obtain⟨v',w',g1,g2,g3⟩:=qpU (Nat.le_trans (Nat.le_trans B1.out.size B3.out.size) hba.size) (qah own3.out hba) j hjl (by omega) a2 n2 c2 hT;exact qav rfl (qab rfl) (v:=v') (w':=w') (qtU rfl rfl p47 p51 g1) ⟨_,rfl,g3,g2⟩
       ·intro a wa hba hF ha;have f0:a.tmps.getD 44 undef= .slice (some ⟨b3,o3,none⟩) ls.length c3:=hF 0 (by decide) _ rfl;have f1:a.tmps.getD 45 undef= .int .i64 (j:Int):=hF 1 (by decide) _ rfl;have f2:a.tmps.getD 46 undef= .int .i64 (j:Int):=hF 2 (by decide) _ rfl;have f3:a.tmps.getD 47 undef= .slice (some ⟨b3,o3,none⟩) j j:=hF 3 (by decide) _ rfl;have f4:a.tmps.getD 48 undef= .slice (some ⟨b3,o3,none⟩) ls.length c3:=hF 4 (by decide) _ rfl;have f5:a.tmps.getD 49 undef= .int .i64 (j:Int):=hF 5 (by decide) _ rfl;have f6:a.tmps.getD 50 undef= .int .i64 ((j:Int)+1):=hF 6 (by decide) _ rfl;have f7:a.tmps.getD 51 undef= .slice a2 n2 c2:=hF 7 (by decide) _ rfl;have f8:qok w.heap.size wa (a.tmps.getD 52 undef) (ls.eraseIdx j):=hF 8 (by decide) _ rfl;clear hF;obtain⟨fv8,hu8⟩: ∃u,u=a.tmps.getD 52 undef:=⟨_,rfl⟩;rw[←hu8] at f8;simp only[List.take,List.foldl,qap,f0,f1,f2,f3,f4,f5,f6,f7,←hu8] at ha;clear f0 f1 f2 f3 f4 f5 f6 f7 hu8;subst ha;simp only[Act.put,List.setIfInBounds_toArray,List.set_cons_succ,List.set_cons_zero];refine qal rfl (qab rfl) (Or.inr rfl) ?_;simp only[Act.put,List.setIfInBounds_toArray,List.set_cons_succ,List.set_cons_zero];clear hT hlc;have e0:=(LE3.out.on hba).c0;have e1:=(LE3.out.on hba).c1;have hel:(ls.eraseIdx j).length=ls.length - 1:=by rw[List.length_eraseIdx];simp[hjl]
        go_wp2_with (at_builtin;go_must (refine qlm rfl (.tmp 54) (.tmp 56) rfl rfl rfl rfl f8 (by have:=hllh.out;omega) (x1,x2) ?_);rintro v2 w10 hown2' hb5;have own4:=Lh hown2';have B4:=Lh hb5;clear hown2' hb5);go_roundg (gk0 - 1)
        case measure=>omega
        case rel=>
         obtain⟨a4,c4,e4⟩:=qae own4.out;exact⟨i+1,ls.eraseIdx j++[(x1,x2)],a4,c4,by omega,by omega,by go_num,e4,by simp only[List.length_append,List.length_cons,List.length_nil];have:=hllh.out;rw[hel];omega,Lh ((B1.out.trans (B3.out.mono B1.out.size)).trans ((hba.mono (Nat.le_trans B1.out.size B3.out.size)).trans B4.out)),own4,Lh (by rw[←qjA hil hqh.out hfold.out,hQE];exact(qrJ hjl hne.out (by rw[hx];exact he)).symm),Lh (.inl (fun e=>by have:=congrArg List.length e;rw[List.length_append] at this;exact absurd this (Nat.succ_ne_zero _)))⟩
      ·have he0:(x.1==x1)=false:=Bool.eq_false_iff.2 he;have he':((BS x.1).toList==(BS x1).toList)=false:=by rw[qad,qad];exact he0
       rw[he'];go_wp2_with fail;go_roundg (gk - 1)
       case measure=>omega
       case rel=>exact⟨j+1,by omega,by omega,by go_num,rfl,LE3,B3,own3,Lh (by
        intro y hy;rw[List.take_add_one] at hy;rcases List.mem_append.1 hy with hy|hy
        ·exact hne.out y hy
        ·rw[List.getElem?_eq_getElem hjl] at hy;simp at hy;rw[hy];have:ls.getD j lb0=ls[j]:=by simp[List.getD_eq_getElem?_getD,hjl]
         rw[←this,hx];exact he0)⟩
     ·obtain rfl:j=ls.length:=by omega
      have u4:decide ((ls.length:Int)<(ls.length:Int))=false:=dF (by omega);have e0:=LEh.out.c0;have e1:=LEh.out.c1;have I3:qok w.heap.size wr (.slice a3 ls.length c3) ls:=⟨Nat.le_trans B1.out.size B2h.out.size,.inl own2.out⟩;go_wp2_with (at_builtin;go_must (refine qlm rfl (.tmp 54) (.tmp 56) rfl rfl rfl rfl I3 (by have:=hllh.out;omega) (x1,x2) ?_);rintro v2 w10 hown2' hb5;have own4:=Lh hown2';have B4:=Lh hb5;clear hown2' hb5);go_roundg (gk0 - 1)
      case measure=>omega
      case rel=>
       obtain⟨a4,c4,e4⟩:=qae own4.out;exact⟨i+1,ls++[(x1,x2)],a4,c4,by omega,by omega,by go_num,e4,by simp only[List.length_append,List.length_cons,List.length_nil];have:=hllh.out;omega,Lh ((B1.out.trans (B2h.out.mono B1.out.size)).trans B4.out),own4,Lh (by rw[←qjA hil hqh.out hfold.out,hQE];exact(qpw hne.out).symm),Lh (.inl (fun e=>by have:=congrArg List.length e;rw[List.length_append] at this;exact absurd this (Nat.succ_ne_zero _)))⟩
  ·obtain rfl:i=k:=by omega
   have u2:decide ((i:Int)<(i:Int))=false:=dF (by omega);go_wp2_with fail;go_ret
   have e:mdF qs=ls:=by
    unfold mdF;rw[hfold.out];congr 1;have h1:=hkh.out;have h2:=hnh.out
    by_cases h:n≤40
    ·rw[List.take_of_length_le (by omega),List.take_of_length_le (by omega)]
    ·rw[show i=40 by omega]
   refine⟨_,rfl,?_,B.out,by rw[e];omega,by rw[e];exact hnil.out⟩;rw[e];exact own.out
end Go.Proofs.YtdeimnnpcfncpaaGreatDoor.X
