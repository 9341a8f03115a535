/- Parts of the proof: Z4. -/
import Derived.Deep.RegionLawGrows
import Derived.Test.YtdeimnnpcfncpaaGreatDoorCX32
set_option linter.unusedVariables false
set_option linter.unusedSimpArgs false
set_option maxRecDepth 100000
set_option maxHeartbeats 64000000
namespace Go.Proofs.YtdeimnnpcfncpaaGreatDoor
open Go Go.RowKit
theorem qgq {P:Program} {ops:Array Oper} {Q:Exit→Act→World→Prop} {a:Act} {w:World} {K:Act→World→Prop} {i:Nat} {o:Oper} (ho:ops[i]?=some o) (hm:Met ops a o)
 (h:if Region.wanted o (yielded ops a.tmps)=true then Oper.wp P o a w K Q else False):wpOp P ops Q i K a w:=by
 unfold Met at hm;rw[if_pos hm] at h;unfold wpOp;simp only[ho,hm,if_true];exact .inl h
theorem qmk (q y:Nat) (hy:0<y):List.replicate q 0++bg y=bg (y*65536^q):=by
 induction q with
 |zero=>simp
 |succ q ih=>
  have h0:0<y*65536^q:=Nat.mul_pos hy (Nat.pow_pos (by decide));rw[List.replicate_succ,List.cons_append,ih,Nat.pow_succ,←Nat.mul_assoc];rw[qbZ (y*65536^q*65536) (by omega)]
  congr 1
  ·omega
  ·congr 1;omega
theorem qcM.cells {w:World} {a:Option Addr} {c:Nat} {l:List Nat} (h:qcM w a c l) (hl:0<l.length): ∃ad,a=some ad∧ ∀j u,(l.map encI)[j]?=some u→w.cell? (ad.add j)=some u:=by
 obtain⟨b,off,hat⟩:=h.at';refine⟨⟨b,off,none⟩,(hat 0 hl).1,fun j u hj=>?_⟩
 have hj':j<l.length:=by
  have:=(List.getElem?_eq_some_iff.1 hj).1;simpa using this
 rw[show(⟨b,off,none⟩:Addr).add j=⟨b,off+j,none⟩ by simp[Addr.add],(hat j hj').2.2];rw[List.getElem?_map,List.getElem?_eq_getElem hj'] at hj;rw[List.getD_eq_getElem?_getD,List.getElem?_eq_getElem hj'];exact hj
theorem qqI (n:Nat) (x y:Operand) (h:n≤2000) (w:World):(do eqGuard .quo 3 x y (.int .i64 (n:Int)) (.int .i64 16);binOp .quo 3 (.int .i64 (n:Int)) (.int .i64 16):Sem Value).run Tryz.prog w= .ok (.int .i64 ((n/16:Nat):Int)) w:=by
 go_simp;rw[IntKind.wrap_i64];omega
theorem qrk (n:Nat) (x y:Operand) (h:n≤2000) (w:World):(do eqGuard .rem 3 x y (.int .i64 (n:Int)) (.int .i64 16);binOp .rem 3 (.int .i64 (n:Int)) (.int .i64 16):Sem Value).run Tryz.prog w= .ok (.int .i64 ((n%16:Nat):Int)) w:=by
 go_simp;exact Int.tmod_eq_emod_of_nonneg (by omega)
theorem qn8 (r:Nat) (x y:Operand) (h:r<16) (w:World):(do eqGuard .shl 3 x y (.int .i64 1) (.int .i64 (r:Int));binOp .shl 3 (.int .i64 1) (.int .i64 (r:Int)):Sem Value).run Tryz.prog w= .ok (.int .i64 ((2^r:Nat):Int)) w:=by
 rcases(by omega:r=0∨r=1∨r=2∨r=3∨r=4∨r=5∨r=6∨r=7∨r=8∨r=9∨r=10∨r=11∨r=12∨r=13∨r=14∨r=15)with rfl|rfl|rfl|rfl|rfl|rfl|rfl|rfl|rfl|rfl|rfl|rfl|rfl|rfl|rfl|rfl
 all_goals rfl
theorem qjN (a:Option Addr) (c x n:Nat) (hn:n≤2000) (hx:(bg x).length≤1000) (hx0:0<x) (w:World) (h:qcM w a c (bg x)):
 Calls Tryz.prog 203 #[.slice a (bg x).length c,.int .i64 n] w (qrv (x*2^n) w):=by
 obtain⟨L,hL⟩: ∃L,Hid (L=(bg x).length):=⟨_,Lh rfl⟩;have hL0:0<L:=by rw[hL.out,qbZ x hx0];simp
 have hh:=Lh h;rw[←hL.out] at hx⊢;have u1:((L:Int)==0)=false:=beq_eq_false_iff_ne.2 (by omega);obtain⟨y,hy⟩: ∃y,y=x*2^(n%16):=⟨_,rfl⟩;have hy0:0<y:=by rw[hy];exact Nat.mul_pos hx0 (Nat.two_pow_pos _)
 have hyq:Hid (List.replicate (n/16) 0++bg y=bg (x*2^n)):=Lh (by
  rw[qmk _ _ hy0,hy,Nat.mul_assoc,show(65536:Nat)=2^16 from rfl,←Nat.pow_mul,←Nat.pow_add]
  congr 2;congr 1;omega)
 have ct: ∀W,Below w.heap.size w W→Calls Tryz.prog 246 #[.slice a L c,.int .i64 ((2^(n%16):Nat):Int),.int .i64 0] W (fun e w'=> ∃a2 c2,e= .returned (.slice a2 (bg y).length c2)∧qcM w' a2 c2 (bg y)∧Below W.heap.size W w'):=fun W hW=>by
  rw[hL.out];have hp:2^(n%16)<65536:=Nat.lt_of_lt_of_le (Nat.pow_lt_pow_right (by decide) (Nat.mod_lt n (by decide):n%16<16)) (by decide);refine(qgw a c x (2^(n%16)) 0 hp (by decide) (by rw[←hL.out];omega) W (hh.out.on hW)).mono ?_;rintro e w' ⟨v,rfl,hO,hb⟩;rw[Nat.add_zero,←hy] at hO;obtain⟨a2,c2,rfl⟩:=hO.shape;exact⟨a2,c2,rfl,hO.nrow,hb⟩
 have hyl:0<(bg y).length:=by rw[qbZ y hy0];simp
 have hylen:(bg y).length≤10000:=by
  have h1:=qtz _ (qle x);rw[qlw,←hL.out] at h1;have hp:2^(n%16)≤65536:=Nat.le_trans (Nat.pow_le_pow_right (by decide) (by omega:n%16≤16)) (by decide)
  have h2:y<65536^(L+1):=by
   rw[hy,Nat.pow_succ];exact Nat.lt_of_lt_of_le (Nat.mul_lt_mul_of_pos_right h1 (Nat.two_pow_pos _)) (Nat.mul_le_mul_left _ hp)
  have:=qeW (L+1) y h2;omega
 obtain⟨i3,hi3,hz0,hz1,hz2⟩:=info_parts info3;go_enter Tryz.func203,Tryz.ntmps203;have hc86:=Tryz.call246;go_upto_region 3 with (fail)
 go_cut [4] (fun s4 wx=> ∃a3 c3,s4= .slice a3 (n/16+(bg y).length) c3∧Hid (qcM wx a3 c3 (List.replicate (n/16) 0++bg y))∧Hid (Below w.heap.size w wx))
 case first=>
  clear hL hy hyq u1 hL0 hx hx0 hh h
  refine qca (fun k v w=>match k with
   |0=>v= .int .i64 (n:Int)|1=>v= .int .i64 ((n/16:Nat):Int)
   |2=> ∃g,v= .slice (some ⟨g,0,none⟩) (n/16) (n/16)∧g<w.heap.size∧ ∀j,j<n/16→w.cell? ⟨g,j,none⟩=some (.int .i64 0)
   |3=>v= .slice a L c|4=>v= .int .i64 (n:Int)|5=>v= .int .i64 ((n%16:Nat):Int)|6=>v= .int .i64 ((2^(n%16):Nat):Int)
   |7=> ∃a2 c2,v= .slice a2 (bg y).length c2∧qcM w a2 c2 (bg y)
   |_=> ∃a3 c3,v= .slice a3 (n/16+(bg y).length) c3∧qcM w a3 c3 (List.replicate (n/16) 0++bg y))
   (by kernel_rfl) (by kernel_rfl) (by decide+kernel) (by kernel_rfl) ?_ ?_ ?_
  ·intro k v w w' h hb;rcases k with _|_|_|_|_|_|_|_|_|_|k
   ·exact h
   ·exact h
   ·obtain⟨g,h1,h2,h3⟩:=h;exact⟨g,h1,Nat.lt_of_lt_of_le h2 hb.size,fun j hj=>(hb.cell (p:=⟨g,j,none⟩) h2).trans (h3 j hj)⟩
   ·exact h
   ·exact h
   ·exact h
   ·exact h
   ·obtain⟨a2,c2,h1,h2⟩:=h;exact⟨a2,c2,h1,h2.on hb⟩
   ·obtain⟨a2,c2,h1,h2⟩:=h;exact⟨a2,c2,h1,h2.on hb⟩
   ·obtain⟨a2,c2,h1,h2⟩:=h;exact⟨a2,c2,h1,h2.on hb⟩
   ·obtain⟨a2,c2,h1,h2⟩:=h;exact⟨a2,c2,h1,h2.on hb⟩
  ·intro k;rcases k with _|_|_|_|_|_|_|_|_|_|k
   all_goals intro o ho a' wa hba hout hsz2 hpre
   all_goals cases ho
   all_goals have q0:a'.tmps.getD 0 undef= .slice a L c:=(hout 0 (by decide+kernel)).trans rfl
   all_goals have q1:a'.tmps.getD 1 undef= .int .i64 (n:Int):=(hout 1 (by decide+kernel)).trans rfl
   all_goals clear hout hsz2
   ·exact qap rfl (qae rfl) (.inl rfl) ⟨_,rfl,Below.refl _ _,q1⟩
   ·have p:a'.tmps.getD 9 undef= .int .i64 (n:Int):=hpre ⟨0,.data⟩ (by simp) rfl _ rfl;exact qa2 rfl (qae rfl) rfl (u:= .int .i64 (n:Int)) (v:= .int .i64 16) p rfl (qqI n _ _ hn wa) ⟨_,rfl,Below.refl _ _,rfl⟩
   ·have p:a'.tmps.getD 10 undef= .int .i64 ((n/16:Nat):Int):=hpre ⟨1,.data⟩ (by simp) rfl _ rfl;obtain⟨wm,hmk,hown,hgr⟩:=run_make_full (P:=Tryz.prog) wa wa.heap.size 251 3 i3 (.int .i64 0) 1 Tryz.underlying251 hi3 hz0 hz1 .i64 .i64 (n/16) (by rw[hz2];omega) (by unfold maxLen;omega) (Nat.le_refl _)
    have hr:(execOp a'.eval {dst:=some 11,op:= .makeSlice 251 (.tmp 10) (.tmp 10),type:=251,pos:= "",after:=#[],guard:=none}).run Tryz.prog wa= .ok (.value (.slice (some ⟨wa.heap.size,0,none⟩) (n/16) (n/16))) wm:=by
     obtain⟨q,hq⟩: ∃q,q=n/16:=⟨_,rfl⟩;rw[←hq] at hmk p⊢;simp[execOp,show a'.eval (.tmp 10)=_ from p,hmk,Result.andThen]
    refine qaC rfl (qae rfl) (v:= .slice (some ⟨wa.heap.size,0,none⟩) (n/16) (n/16)) (w':=wm) hr ⟨_,rfl,(Below.refl _ _).grown hgr (Nat.le_refl _) (fun _ e=>by cases e),wa.heap.size,rfl,?_,fun j hj=>?_⟩
    ·rcases hown.2 with ⟨h1,_⟩|⟨g,cap,cur,h1,_,h3,_⟩
     ·cases h1
     ·cases h1;exact(Array.getElem?_eq_some_iff.1 h3).1
    ·rw[hown.cellAt j (by omega)]
     have:(madeCells (Value.int IntKind.i64 0).cells (n/16*1)).toList[j]?=some (.int .i64 0):=by
      simp[madeCells,hj];rw[show(Value.int IntKind.i64 0).cells=#[Value.int .i64 0] from rfl];simp[Nat.mod_one]
     exact this
   ·exact qap rfl (qae rfl) (.inl rfl) ⟨_,rfl,Below.refl _ _,q0⟩
   ·exact qap rfl (qae rfl) (.inl rfl) ⟨_,rfl,Below.refl _ _,q1⟩
   ·have p:a'.tmps.getD 13 undef= .int .i64 (n:Int):=hpre ⟨4,.data⟩ (by simp) rfl _ rfl;exact qa2 rfl (qae rfl) rfl (u:= .int .i64 (n:Int)) (v:= .int .i64 16) p rfl (qrk n _ _ hn wa) ⟨_,rfl,Below.refl _ _,rfl⟩
   ·have p:a'.tmps.getD 14 undef= .int .i64 ((n%16:Nat):Int):=hpre ⟨5,.data⟩ (by simp) rfl _ rfl;exact qa2 rfl (qae rfl) rfl (u:= .int .i64 1) (v:= .int .i64 ((n%16:Nat):Int)) rfl p (qn8 (n%16) _ _ (Nat.mod_lt n (by decide)) wa) ⟨_,rfl,Below.refl _ _,rfl⟩
   ·have p3:a'.tmps.getD 12 undef= .slice a L c:=hpre ⟨3,.data⟩ (by simp) rfl _ rfl;have p6:a'.tmps.getD 15 undef= .int .i64 ((2^(n%16):Nat):Int):=hpre ⟨6,.data⟩ (by simp) rfl _ rfl;refine qa3 rfl (qae rfl) #[.slice a L c,.int .i64 ((2^(n%16):Nat):Int),.int .i64 0] (by simp[show a'.eval (.tmp 12)=_ from p3,show a'.eval (.tmp 15)=_ from p6];rfl) (hc86 _ _) ((ct wa hba).mono ?_);rintro e w' ⟨a2,c2,rfl,h1,hb⟩;exact⟨_,rfl,_,rfl,hb,a2,c2,rfl,h1⟩
   ·obtain⟨g,p1,p2,p3⟩: ∃g,a'.tmps.getD 11 undef= .slice (some ⟨g,0,none⟩) (n/16) (n/16)∧g<wa.heap.size∧ ∀j,j<n/16→wa.cell? ⟨g,j,none⟩=some (.int .i64 0):=hpre ⟨2,.data⟩ (by simp) rfl _ rfl;obtain⟨a2,c2,r1,r2⟩: ∃a2 c2,a'.tmps.getD 16 undef= .slice a2 (bg y).length c2∧qcM wa a2 c2 (bg y):=hpre ⟨7,.data⟩ (by simp) rfl _ rfl;obtain⟨ad,rfl,hcs⟩:=r2.cells hyl;refine qgq rfl (qae rfl) (step_append_grows rfl (.tmp 11) (.tmp 16) 251 rfl 3 i3 (.int .i64 0) 1 8 Tryz.underlying251 hi3 hz0 hz1 hz2 rfl (by decide) (some ⟨g,0,none⟩) (n/16) (n/16) ((List.replicate (n/16) 0).map encI) p1 (fun e=>by cases e) (by simp) ?_ ad (bg y).length c2 ((bg y).map encI) r1 (by simp) hcs ?_ (by omega) (by unfold maxLen;omega) (by omega) ?_)
    ·intro b hb j u hj;cases hb
     have hj':j<n/16:=by
      have:=(List.getElem?_eq_some_iff.1 hj).1;simpa using this
     rw[show(⟨g,0,none⟩:Addr).add j=⟨g,j,none⟩ by simp[Addr.add];omega,p3 j hj'];rw[List.getElem?_map,List.getElem?_replicate,if_pos hj'] at hj;exact hj
    ·intro u hu;obtain⟨z,_,rfl⟩:=List.mem_map.1 hu;rfl
    ·intro v' w' hown hgr
     have hO:OB w' wa.heap.size v' (List.replicate (n/16) 0++bg y):=by
      unfold OB;rw[List.length_append,List.length_replicate,List.map_append];exact hown
     obtain⟨a3,c3,rfl⟩:=hO.shape;refine⟨_,rfl,(Below.refl _ _).grown hgr (Nat.le_refl _) (fun _ e=>by cases e),a3,c3,?_,hO.nrow⟩;rw[List.length_append,List.length_replicate]
   ·obtain⟨a3,c3,r1,r2⟩: ∃a3 c3,a'.tmps.getD 17 undef= .slice a3 (n/16+(bg y).length) c3∧qcM wa a3 c3 (List.replicate (n/16) 0++bg y):=hpre ⟨8,.data⟩ (by simp) rfl _ rfl;exact qap rfl (qae rfl) (.inr rfl) ⟨_,rfl,Below.refl _ _,a3,c3,r1,r2⟩
  ·intro a' wb hb hall ha;have f0:a'.tmps.getD 9 undef= .int .i64 (n:Int):=hall 0 _ rfl;have f1:a'.tmps.getD 10 undef= .int .i64 ((n/16:Nat):Int):=hall 1 _ rfl;obtain⟨g2,f2,_,_⟩: ∃g,a'.tmps.getD 11 undef= .slice (some ⟨g,0,none⟩) (n/16) (n/16)∧g<wb.heap.size∧ ∀j,j<n/16→wb.cell? ⟨g,j,none⟩=some (.int .i64 0):=hall 2 _ rfl;have f3:a'.tmps.getD 12 undef= .slice a L c:=hall 3 _ rfl;have f4:a'.tmps.getD 13 undef= .int .i64 (n:Int):=hall 4 _ rfl;have f5:a'.tmps.getD 14 undef= .int .i64 ((n%16:Nat):Int):=hall 5 _ rfl;have f6:a'.tmps.getD 15 undef= .int .i64 ((2^(n%16):Nat):Int):=hall 6 _ rfl;obtain⟨a7,c7,f7,_⟩: ∃a2 c2,a'.tmps.getD 16 undef= .slice a2 (bg y).length c2∧qcM wb a2 c2 (bg y):=hall 7 _ rfl;obtain⟨a8,c8,f8,_⟩: ∃a3 c3,a'.tmps.getD 17 undef= .slice a3 (n/16+(bg y).length) c3∧qcM wb a3 c3 (List.replicate (n/16) 0++bg y):=hall 8 _ rfl;obtain⟨a9,c9,f9,r9⟩: ∃a3 c3,a'.tmps.getD 4 undef= .slice a3 (n/16+(bg y).length) c3∧qcM wb a3 c3 (List.replicate (n/16) 0++bg y):=hall 9 _ rfl;simp only[List.foldl,qaq,f0,f1,f2,f3,f4,f5,f6,f7,f8,f9] at ha;clear hall f0 f1 f2 f3 f4 f5 f6 f7 f8 f9;subst ha;simp only[Act.put,List.setIfInBounds_toArray,List.set_cons_succ,List.set_cons_zero];go_wp2_with fail;go_meet;exact⟨a9,c9,rfl,Lh r9,Lh hb⟩
 case rest=>
  obtain⟨a3,c3,rfl,hN,B⟩:=hcut;have hlen:Hid (n/16+(bg y).length=(bg (x*2^n)).length):=Lh (by rw[←hyq.out,List.length_append,List.length_replicate]);have hN2:=hN.out;rw[hyq.out] at hN2;replace hN2:=Lh hN2;go_wp2_with fail;go_ret;exact⟨a3,c3,by rw[←hlen.out];rfl,hN2.out,B.out⟩
theorem qoX (o:List Nat): ∀(j d:Nat),j<o.length→bv (o.set j d)+65536^j*o.getD j 0=bv o+65536^j*d:=by
 induction o with
 |nil=>intro j d h;cases h
 |cons x t ih=>
  intro j d h
  cases j with
  |zero=>simp[bv];omega
  |succ j=>
   have:=ih j d (by simpa using h);show x+65536*bv (t.set j d)+65536^(j+1)*t.getD j 0=x+65536*bv t+65536^(j+1)*d;rw[Nat.pow_succ,Nat.mul_comm (65536^j) 65536,Nat.mul_assoc,Nat.mul_assoc];omega
theorem qnv (n:Nat):bv (List.replicate n 0)=0:=by
 induction n with
 |zero=>rfl
 |succ n ih=>rw[List.replicate_succ];show 0+65536*bv (List.replicate n 0)=0;rw[ih]
theorem qko (m:List Nat) (z:Nat):bv (m++[z])=bv m+65536^m.length*z:=by
 rw[qgJ];simp[bv]
theorem qjQ {B:Nat} {a w:World} (h:Below B a w) (n:Nat):Below B a (w.drewN n):=h.trans ⟨rfl,rfl,rfl,Nat.le_refl _,fun _ _=>rfl⟩
theorem qkO (bo bo2 T oj d c c2 xi yk R Ti Y Tk:Nat) (h1:bo2+T*oj=bo+T*d) (h2:c+oj+xi*yk=d+65536*c2) (h3:bo+c*T=R+Ti*xi*Y) (hT:T=Ti*Tk):bo2+c2*(T*65536)=R+Ti*xi*(Y+Tk*yk):=by
 have e1:T*(c+oj+xi*yk)=T*d+T*(65536*c2):=by rw[h2,Nat.mul_add]
 rw[Nat.mul_add,Nat.mul_add] at e1
 have e2:Ti*xi*(Y+Tk*yk)=Ti*xi*Y+T*(xi*yk):=by
  rw[Nat.mul_add,hT];congr 1;ac_rfl
 have e3:c2*(T*65536)=T*(65536*c2):=by ac_rfl
 have e4:c*T=T*c:=Nat.mul_comm _ _;rw[e2,e3];rw[e4] at h3;omega
theorem qhE (a1 a2:Option Addr) (c1 c2 x y:Nat) (hx:(bg x).length≤1000) (hy:(bg y).length≤1000) (w:World) (h1:qcM w a1 c1 (bg x)) (h2:qcM w a2 c2 (bg y)):
 Calls Tryz.prog 205 #[.slice a1 (bg x).length c1,.slice a2 (bg y).length c2] w (qrv (x*y) w):=by
 have hx1:=Lh (qle x);have hx2:=Lh (qlw x);have hy1:=Lh (qle y);have hy2:=Lh (qlw y);obtain⟨X,hX⟩: ∃X,X=bg x:=⟨_,rfl⟩;obtain⟨Y,hY⟩: ∃Y,Y=bg y:=⟨_,rfl⟩;rw[←hX] at hx1 hx2 hx h1⊢;rw[←hY] at hy1 hy2 hy h2⊢;clear hX hY;obtain⟨b1,off1,hat1⟩:=h1.at';obtain⟨b2,off2,hat2⟩:=h2.at';replace hat1:=Lh hat1;replace hat2:=Lh hat2;obtain⟨la,hla⟩: ∃n,n=X.length:=⟨_,rfl⟩;obtain⟨lb,hlb⟩: ∃n,n=Y.length:=⟨_,rfl⟩;rw[←hla] at hx⊢;rw[←hlb] at hy⊢;replace hla:=Lh hla;replace hlb:=Lh hlb;obtain⟨i3,hi3,hz0,hz1,hz2⟩:=info_parts info3;obtain⟨wm,hmk,hown,hgr⟩:=run_make_full (P:=Tryz.prog) w w.heap.size 251 3 i3 (.int .i64 0) 1 Tryz.underlying251 hi3 hz0 hz1 .i64 .i64 (la+lb+1) (by rw[hz2];omega) (by unfold maxLen;omega) (Nat.le_refl _);rw[show(((la+lb+1:Nat)):Int)=(la:Int)+(lb:Int)+1 from rfl] at hmk;have hwb:Hid (Below w.heap.size w wm):=Lh ((Below.refl w.heap.size w).grown hgr (Nat.le_refl _) (fun _ e=>by cases e));obtain⟨g,hg⟩: ∃g,g=w.heap.size:=⟨_,rfl⟩;obtain⟨N,hN⟩: ∃N,N=la+lb+1:=⟨_,rfl⟩
 have I0:Hid (wm.ownsRow w.heap.size 3 1 (.slice (some ⟨g,0,none⟩) N N) N ((List.replicate N 0).map encI)):=Lh (by
  rw[hN,hg]
  have e:(madeCells (Value.int IntKind.i64 0).cells ((la+lb+1)*1)).toList=(List.replicate (la+lb+1) 0).map encI:=by
   apply List.ext_getElem?;intro j;rw[Nat.mul_one,List.getElem?_map,List.getElem?_replicate]
   by_cases hj:j<la+lb+1
   ·rw[if_pos hj];simp[madeCells,hj];rw[show(Value.int IntKind.i64 0).cells=#[Value.int .i64 0] from rfl];simp[Nat.mod_one,encI]
   ·rw[if_neg hj];simp[madeCells];omega
  rw[←e];exact hown)
 replace hg:=Lh hg;have hgB:w.heap.size≤g:=by rw[hg.out];exact Nat.le_refl _
 have hNl:la+lb<N:=by omega
 have hNb:N≤3000:=by omega
 replace hN:=Lh hN;clear hown hgr hi3 hz0 hz1 hz2 h1 h2;go_enter Tryz.func205,Tryz.ntmps205;go_upto_block 0 with (fail)
 rw[←hg.out,←hN.out]
 have hget: ∀(o:List Nat) (wx:World) (j:Nat),j<N→wx.ownsRow w.heap.size 3 1 (.slice (some ⟨g,0,none⟩) N N) N (o.map encI)→o.length=N∧wx.cell? ⟨g,j,none⟩=some (.int .i64 ((o.getD j 0:Nat):Int)):=fun o wx j hj h=>by
  have hl:o.length=N:=by have:=h.1;rw[List.length_map,Nat.mul_one] at this;exact this
  refine⟨hl,?_⟩;rw[h.cellAt j (by omega),List.getElem?_map,List.getElem?_eq_getElem (by omega),List.getD_eq_getElem?_getD,List.getElem?_eq_getElem (by omega)];rfl
 replace hget:=Lh hget;go_cut [5] (fun s5 wx=>s5= .slice (some ⟨g,0,none⟩) N N∧ ∃o:List Nat,Hid (wx.ownsRow w.heap.size 3 1 (.slice (some ⟨g,0,none⟩) N N) N (o.map encI))∧Hid (Dg o)∧Hid (bv o=x*y)∧Hid (Below w.heap.size w wx))
 case first=>
  go_wp2_with fail;go_loopg [6] (la+1) (fun gk s6 wx=> ∃(i:Nat) (o:List Nat),la - i<gk∧i≤la∧s6= .int .i64 (i:Int)∧Hid (wx.ownsRow w.heap.size 3 1 (.slice (some ⟨g,0,none⟩) N N) N (o.map encI))∧Hid (Dg o)∧Hid (bv o=bv (X.take i)*y)∧Hid (∀j,i+lb≤j→o.getD j 0=0)∧Hid (Below w.heap.size w wx))
  case atStart=>
   refine⟨0,List.replicate N 0,by omega,by omega,rfl,I0,Lh (fun z hz=>by rw[List.mem_replicate] at hz;omega),Lh (by rw[qnv];simp[bv]),Lh (fun j _=>?_),hwb⟩;rw[List.getD_eq_getElem?_getD,List.getElem?_replicate];split<;>rfl
  case round=>
   clear I0 hwb hmk;obtain⟨i,o,hgk,hi,rfl,I,hD,hV,hZ,B⟩:=hrel
   by_cases hlt:i<la
   ·have t1:decide ((i:Int)<(la:Int))=true:=dT (by omega);have t1':decide (i<la)=true:=dT hlt;obtain⟨rfl,hbw1,hcell1⟩:=hat1.out i (by rw[←hla.out];exact hlt);obtain⟨xi,hxi⟩: ∃z,Hid (z=X.getD i 0):=⟨_,Lh rfl⟩;rw[←hxi.out] at hcell1
    have hx6:xi<65536:=by
     rw[hxi.out,List.getD_eq_getElem?_getD,List.getElem?_eq_getElem (by rw[←hla.out];exact hlt)];exact hx1.out _ (List.getElem_mem _)
    go_upto_block 2 with (fail)
    go_cut [7] (fun s7 wx=> ∃(c:Nat) (o:List Nat),s7= .int .i64 (c:Int)∧c<65536∧Hid (wx.ownsRow w.heap.size 3 1 (.slice (some ⟨g,0,none⟩) N N) N (o.map encI))∧Hid (Dg o)∧Hid (bv o+c*65536^(i+lb)=bv (X.take i)*y+65536^i*xi*y)∧Hid (∀j,i+lb≤j→o.getD j 0=0)∧Hid (Below w.heap.size w wx))
    case first=>
     go_wp2_with fail;go_loopg [7,8] (lb+1) (fun gq s7 s8 wx=> ∃(k c:Nat) (o:List Nat),lb - k<gq∧k≤lb∧s8= .int .i64 (k:Int)∧s7= .int .i64 (c:Int)∧c<65536∧Hid (wx.ownsRow w.heap.size 3 1 (.slice (some ⟨g,0,none⟩) N N) N (o.map encI))∧Hid (Dg o)∧Hid (bv o+c*65536^(i+k)=bv (X.take i)*y+65536^i*xi*bv (Y.take k))∧Hid (∀j,i+lb≤j→o.getD j 0=0)∧Hid (Below w.heap.size w wx))
     case atStart=>exact⟨0,0,o,by omega,by omega,rfl,rfl,by omega,I,hD,Lh (by rw[hV.out];simp[bv]),hZ,B⟩
     case round=>
      clear I hD hV hZ B;clear o;obtain⟨k,c,o,hgq,hk,rfl,rfl,hc,I,hD,hV,hZ,B⟩:=hrel
      by_cases hkt:k<lb
      ·have t2:decide ((k:Int)<(lb:Int))=true:=dT (by omega);have t2':decide (k<lb)=true:=dT hkt;obtain⟨rfl,hbw2,hcell2⟩:=hat2.out k (by rw[←hlb.out];exact hkt);obtain⟨yk,hyk⟩: ∃z,Hid (z=Y.getD k 0):=⟨_,Lh rfl⟩;rw[←hyk.out] at hcell2
       have hy6:yk<65536:=by
        rw[hyk.out,List.getD_eq_getElem?_getD,List.getElem?_eq_getElem (by rw[←hlb.out];exact hkt)];exact hy1.out _ (List.getElem_mem _)
       obtain⟨hol,hco⟩:=hget.out o wr (i+k) (by omega) I.out;obtain⟨oj,hoj⟩: ∃z,Hid (z=o.getD (i+k) 0):=⟨_,Lh rfl⟩;rw[←hoj.out] at hco
       have ho6:oj<65536:=by
        rw[hoj.out,List.getD_eq_getElem?_getD,List.getElem?_eq_getElem (by omega)];exact hD.out _ (List.getElem_mem _)
       have hc1:wr.cell? ⟨b1,off1+i,none⟩=some (.int .i64 (xi:Int)):=by rw[B.out.cell hbw1];exact hcell1
       have hc2:wr.cell? ⟨b2,off2+k,none⟩=some (.int .i64 (yk:Int)):=by rw[B.out.cell hbw2];exact hcell2
       have hfz:=qbK I.out (i+k);obtain⟨p,hp⟩: ∃p,xi*yk=p:=⟨_,rfl⟩;have hpb:p≤4294836225:=by rw[←hp];exact Nat.mul_le_mul (show xi≤65535 by omega) (show yk≤65535 by omega)
       have hpI:(xi:Int)*(yk:Int)=(p:Int):=by rw[←hp];rfl
       obtain⟨s,hs⟩: ∃s,s=c+oj+p:=⟨_,rfl⟩
       have hstep:Hid (bv (o.set (i+k) (s%65536))+s/65536*65536^(i+(k+1))=bv (X.take i)*y+65536^i*xi*bv (Y.take (k+1))):=Lh (by
        rw[qcY Y k (by rw[←hlb.out];exact hkt),←hyk.out,qko,List.length_take,←hlb.out,Nat.min_eq_left hk,show i+(k+1)=(i+k)+1 by omega,Nat.pow_succ];refine qkO (bv o) _ (65536^(i+k)) oj (s%65536) c (s/65536) xi yk _ (65536^i) _ (65536^k) ?_ (by rw[hp,←hs];omega) hV.out (Nat.pow_add _ _ _);have:=qoX o (i+k) (s%65536) (by omega);rw[←hoj.out] at this
        exact this)
       have hD2:Hid (Dg (o.set (i+k) (s%65536))):=Lh (fun z hz=>by
        rcases List.mem_or_eq_of_mem_set hz with h|h
        ·exact hD.out z h
        ·omega)
       have hZ2:Hid (∀j,i+lb≤j→(o.set (i+k) (s%65536)).getD j 0=0):=Lh (fun j hj=>by
        rw[List.getD_eq_getElem?_getD,List.getElem?_set_ne (by omega),←List.getD_eq_getElem?_getD]
        exact hZ.out j hj)
       have hI2: ∀(W:World) (v:Value),v= .int .i64 ((s%65536:Nat):Int)→W.ownsRow w.heap.size 3 1 (.slice (some ⟨g,0,none⟩) N N) N (o.map encI)→Hid ((W.setCell ⟨g,i+k,none⟩ v).ownsRow w.heap.size 3 1 (.slice (some ⟨g,0,none⟩) N N) N ((o.set (i+k) (s%65536)).map encI)):=fun W v hv hW=>by
        have:=qb4 hW (i+k) v;rw[hv,show(Value.int .i64 ((s%65536:Nat):Int))=encI (s%65536)from rfl,←List.map_set] at this;rw[hv];exact Lh this
       have hs2:(c:Int)+(oj:Int)+(p:Int)=(s:Int):=by rw[hs];rfl
       have hsb:s≤4294967295:=by omega
       replace hget:=Lh hget;replace hI2:=Lh hI2;clear hV hD hZ hp hs hcell1 hcell2 hbw1 hbw2 hol;go_upto_region 9 with (fail)
       go_quiet (fail);go_wp2_with fail;go_roundg (gk - 1)
       case measure=>omega
       case rel=>exact⟨k+1,s/65536,o.set (i+k) (s%65536),by omega,by omega,by go_num,by go_num,by omega,hI2.out _ _ rfl I.out,hD2,hstep,hZ2,Lh (Below.setCell (p:=⟨g,i+k,none⟩) (qjQ B.out _) hgB _)⟩
      ·obtain rfl:k=lb:=by omega
       have t2:decide ((k:Int)<(k:Int))=false:=dF (by omega)
       have hV2:Hid (bv o+c*65536^(i+k)=bv (X.take i)*y+65536^i*xi*y):=Lh (by
        have:=hV.out;rw[hlb.out,List.take_length,hy2.out,←hlb.out] at this
        exact this)
       clear hV;go_wp2_with fail;go_meet;exact⟨c,o,rfl,hc,I,hD,hV2,hZ,B⟩
    case rest=>
     clear I hD hV hZ B;clear o;obtain⟨c,o,rfl,hc,I,hD,hV,hZ,B⟩:=hcut;obtain⟨hol,hco⟩:=hget.out o _ (i+lb) (by omega) I.out;rw[hZ.out (i+lb) (Nat.le_refl _)] at hco;have hfz:=qbK I.out (i+lb)
     have hstep:Hid (bv (o.set (i+lb) c)=bv (X.take (i+1))*y):=Lh (by
      have h1:=qoX o (i+lb) c (by omega);rw[hZ.out (i+lb) (Nat.le_refl _),Nat.mul_zero,Nat.add_zero] at h1
      rw[h1,qcY X i (by rw[←hla.out];exact hlt),←hxi.out,qko,List.length_take,←hla.out,Nat.min_eq_left hi,Nat.add_mul,←hV.out,Nat.mul_comm c])
     have hD2:Hid (Dg (o.set (i+lb) c)):=Lh (fun z hz=>by
      rcases List.mem_or_eq_of_mem_set hz with h|h
      ·exact hD.out z h
      ·omega)
     have hZ2:Hid (∀j,i+1+lb≤j→(o.set (i+lb) c).getD j 0=0):=Lh (fun j hj=>by
      rw[List.getD_eq_getElem?_getD,List.getElem?_set_ne (by omega),←List.getD_eq_getElem?_getD]
      exact hZ.out j (by omega))
     have hI2: ∀(W:World) (v:Value),v= .int .i64 (c:Int)→W.ownsRow w.heap.size 3 1 (.slice (some ⟨g,0,none⟩) N N) N (o.map encI)→Hid ((W.setCell ⟨g,i+lb,none⟩ v).ownsRow w.heap.size 3 1 (.slice (some ⟨g,0,none⟩) N N) N ((o.set (i+lb) c).map encI)):=fun W v hv hW=>by
      have:=qb4 hW (i+lb) v;rw[hv,show(Value.int .i64 (c:Int))=encI c from rfl,←List.map_set] at this;rw[hv];exact Lh this
     replace hI2:=Lh hI2;clear hV hD hZ hcell1 hbw1 hol;go_wp2_with fail;go_roundg (gk - 1)
     case measure=>omega
     case rel=>exact⟨i+1,o.set (i+lb) c,by omega,by omega,by go_num,hI2.out _ _ rfl I.out,hD2,hstep,hZ2,Lh (B.out.setCell hgB _)⟩
   ·obtain rfl:i=la:=by omega
    have t1:decide ((i:Int)<(i:Int))=false:=dF (by omega)
    have hV2:Hid (bv o=x*y):=Lh (by
     have:=hV.out;rw[hla.out,List.take_length,hx2.out] at this
     exact this)
    clear hV;go_wp2_with fail;go_meet;exact⟨rfl,o,I,hD,hV2,B⟩
 case rest=>
  obtain⟨rfl,o,I,hD,hV,B⟩:=hcut;have hol:o.length=N:=by have:=I.out.1;rw[List.length_map,Nat.mul_one] at this;exact this
  have hO:OB wc w.heap.size (.slice (some ⟨g,0,none⟩) o.length N) o:=by unfold OB;rw[hol];exact I.out
  have ct:=qfk (some ⟨g,0,none⟩) N w.heap.size o hD.out (by omega) _ hO;rw[hV.out,hol] at ct;replace ct:=Lh ct;clear hV hD I hO hol hmk I0 hwb;go_wp2_with fail;refine ct.out.mono ?_;rintro e w4 ⟨v,rfl,hO,rfl⟩;obtain⟨a4,c4,rfl⟩:=hO.shape;have hOh:=Lh hO;clear ct hO;go_wp2_with fail;go_ret;exact⟨_,_,rfl,hOh.out.nrow,B.out⟩
theorem drop_at (l:List Nat) (i:Nat) (h:i<l.length):l.drop i=l.getD i 0::l.drop (i+1):=by
 rw[List.drop_eq_getElem_cons h,List.getD_eq_getElem?_getD,List.getElem?_eq_getElem h];rfl
theorem qeQ (r:Nat) (hr:r<9223372036854775808) (w:World):Calls Tryz.prog 201 #[.int .u64 r] w fun e w'=>e= .returned (.tuple #[.int .u64 (fr r:Int),.int .i64 ((ex r:Int) - 1075)])∧w=w':=by
 have e1:(r:Int)/4503599627370496=((r/4503599627370496:Nat):Int):=by omega
 have e2:(r:Int)%4503599627370496=((r%4503599627370496:Nat):Int):=by omega
 by_cases h:r<4503599627370496
 ·have hf:fr r=r%4503599627370496:=by unfold fr;rw[if_pos h];omega
  have he:ex r=1:=by unfold ex;rw[if_pos h]
  have u1:((r:Int)/4503599627370496==0)=true:=by rw[beq_iff_eq];omega
  have e3:(r:Int)/4503599627370496=0:=by omega
  rw[hf,he];obtain⟨y,hy⟩: ∃y,y=r%4503599627370496:=⟨_,rfl⟩;rw[←hy] at e2⊢;clear hf he h u1 e1;replace hy:=Lh hy;have e2h:=Lh e2;go_enter Tryz.func201,Tryz.ntmps201;go_wp2_with fail;go_ret2;refine⟨?_,rfl⟩;show Ending.returned (.tuple #[.int .u64 ((r:Int)%4503599627370496),.int .i64 (-1074)])=_;rw[e2h.out];rfl
 ·have hf:fr r=4503599627370496+r%4503599627370496:=by unfold fr;rw[if_neg h]
  have he:ex r=r/4503599627370496:=by unfold ex;rw[if_neg h]
  rw[hf,he];obtain⟨y,hy⟩: ∃y,y=r%4503599627370496:=⟨_,rfl⟩;obtain⟨x,hx⟩: ∃x,x=r/4503599627370496:=⟨_,rfl⟩;have hyb:y<4503599627370496:=by omega
  have hxb:1≤x∧x<2048:=by omega
  rw[←hy] at e2⊢;rw[←hx] at e1⊢;obtain⟨hx1,hx2⟩:=hxb;have u1:((x:Int)==0)=false:=by simp;omega
  clear hf he h;replace hy:=Lh hy;replace hx:=Lh hx;go_enter Tryz.func201,Tryz.ntmps201;go_wp2_with fail;go_ret2;exact⟨by rw[Int.add_comm (y:Int)];rfl,rfl⟩
def T16 (n:Nat):Nat:=65536^n
theorem qhK (j x:Nat) (h:x<T16 j):(bg x).length≤j:=qeW j x h
theorem qpQ:T10 767<T16 160:=by unfold T10 T16;decide+kernel
end Go.Proofs.YtdeimnnpcfncpaaGreatDoor
