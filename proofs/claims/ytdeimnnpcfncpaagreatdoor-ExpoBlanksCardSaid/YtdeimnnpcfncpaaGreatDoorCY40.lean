/- Parts of the proof: Q2 Q1 Q3 Q4. -/
import Derived.Laws.StructEq
import Derived.StillTailTactics
import Derived.Test.YtdeimnnpcfncpaaGreatDoorCY39
set_option linter.unusedVariables false
set_option linter.unusedSimpArgs false
set_option maxRecDepth 100000
set_option maxHeartbeats 64000000
namespace Go.Proofs.YtdeimnnpcfncpaaGreatDoor.X
open Go Go.RowKit
deriving instance DecidableEq for Smp
deriving instance DecidableEq for Bdy
def qjP (l:List UInt8):Sum Int (List Lb×List UInt8):=
 if 65536<l.length then .inl 3
 else if qan 58 (nm 58 (tb l))=true then
  (if ((tb (nr 58 (tb l))).head?==some 123)=true then
    (if (qcj (tb (nr 58 (tb l))).tail).1=0 then .inr ((qag,nm 58 (tb l))::(qcj (tb (nr 58 (tb l))).tail).2.1,tb (qcj (tb (nr 58 (tb l))).tail).2.2) else .inl (qcj (tb (nr 58 (tb l))).tail).1)
   else .inr ([(qag,nm 58 (tb l))],tb (tb (nr 58 (tb l)))))
 else .inl 230
theorem qg1 (l:List UInt8):qay l=match qjP l with| .inl e=>(e,qbj)| .inr (all,c)=>qcL all c:=by
 unfold qay qjP
 repeat' split
 all_goals first|rfl|(simp_all;done)|skip
 all_goals simp_all
theorem qcy {l:List UInt8} {e:Int} (h:qjP l= .inl e):qay l=(e,qbj):=by rw[qg1,h]
theorem qdu {l:List UInt8} {v:Nat} (h0:l.length≤780) (h1:qbt l=false) (h2:qaE l=true) (h3:(qbW (qdf l)).trunc=false) (h4:qi6 l=v):qeF l=some v:=by
 rw[←h4];exact qf4 l (by omega) h1 h2 (fun ht=>by rw[h3] at ht;cases ht)
theorem qjH {l:List UInt8} (h1:qbt l=false) (h2:qaE l=false):qeF l=none:=by
 unfold qeF
 split
 ·rfl
 ·rw[if_neg (by rw[h1];decide),if_neg (by rw[h2];decide)]
theorem qqf {l:List UInt8} {v:Nat} (h0:l.length≤1200) (h1:qbt l=true) (h4:qrU l=v):qeF l=some v:=by
 unfold qeF;rw[if_neg (by omega),if_pos h1,h4]
theorem qdX {l c:List UInt8} {all:List Lb} (h:qjP l= .inr (all,c)) (h2:qeF (wd c)=none):qay l=(233,qbj):=by
 rw[qg1,h];show qcL all c=_;unfold qcL;rw[h2]
theorem qb7 {l c:List UInt8} {all:List Lb} {v:Nat} (h:qjP l= .inr (all,c)) (h2:qeF (wd c)=some v):qay l=qdC all v (tb (wr c)):=by
 rw[qg1,h];show qcL all c=_;unfold qcL;rw[h2]
def sA:Smp:=⟨[(qag,[117,112])],0x3ff0000000000000,false,0⟩
def sB:Smp:=⟨[(qag,[104,116,116,112]),([99,111,100,101],[50,48,48]),([112,97,116,104],[47,97,34,98])],0x4075e00000000000,true,-17⟩
def sC:Smp:=⟨[(qag,[97])],0x7ff8000000000001,false,0⟩
def xA:List UInt8:=[117,112,32,49]
theorem rA:qay xA=(0,sA):=by
 rw[qb7 (c:=[49]) (all:=[(qag,[117,112])]) (by decide+kernel) (qdu (v:=0x3ff0000000000000) (by decide) (by decide) (by decide+kernel) (by decide+kernel) (by decide+kernel))]
 decide+kernel
def xB:List UInt8:=[104,116,116,112,123,99,111,100,101,61,34,50,48,48,34,44,32,112,97,116,104,61,34,47,97,92,34,98,34,44,125,32,51,46,53,101,50,32,45,49,55]
theorem rB:qay xB=(0,sB):=by
 rw[qb7 (c:=[51,46,53,101,50,32,45,49,55]) (all:=[(qag,[104,116,116,112]),([99,111,100,101],[50,48,48]),([112,97,116,104],[47,97,34,98])]) (by decide+kernel) (qdu (v:=0x4075e00000000000) (by decide) (by decide) (by decide+kernel) (by decide+kernel) (by decide+kernel))]
 decide+kernel
def xC:List UInt8:=[97,123,98,61,34,34,125,32,78,97,78]
theorem rC:qay xC=(0,sC):=by
 rw[qb7 (c:=[78,97,78]) (all:=[(qag,[97]),([98],[])]) (by decide+kernel) (qqf (v:=9221120237041090561) (by decide) (by decide) (by decide+kernel))]
 decide+kernel
def x1:List UInt8:=[49,97,32,49]
theorem r1:qay x1=(230,qbj):=qcy (by decide+kernel)
def x2:List UInt8:=[97,123,98,61,34,99,125,32,49]
theorem r2:qay x2=(231,qbj):=qcy (by decide+kernel)
def x3:List UInt8:=[97,123,98,61,34,99,34,44,98,61,34,100,34,125,32,49]
theorem r3:qay x3=(232,qbj):=qcy (by decide+kernel)
def x4:List UInt8:=[97,123,95,95,110,97,109,101,95,95,61,34,120,34,125,32,49]
theorem r4:qay x4=(232,qbj):=qcy (by decide+kernel)
def x5:List UInt8:=[97]
theorem r5:qay x5=(233,qbj):=qdX (c:=[]) (all:=[(qag,[97])]) (by decide+kernel) (qjH (by decide+kernel) (by decide+kernel))
def x6:List UInt8:=[97,32,48,120,49,48]
theorem r6:qay x6=(233,qbj):=qdX (c:=[48,120,49,48]) (all:=[(qag,[97])]) (by decide+kernel) (qjH (by decide+kernel) (by decide+kernel))
def x7:List UInt8:=[97,32,49,32,49,46,53]
theorem r7:qay x7=(234,qbj):=by
 rw[qb7 (c:=[49,32,49,46,53]) (all:=[(qag,[97])]) (by decide+kernel) (qdu (v:=0x3ff0000000000000) (by decide) (by decide) (by decide+kernel) (by decide+kernel) (by decide+kernel))]
 decide+kernel
def x8:List UInt8:=[97,32,49,32,50,32,51]
theorem r8:qay x8=(235,qbj):=by
 rw[qb7 (c:=[49,32,50,32,51]) (all:=[(qag,[97])]) (by decide+kernel) (qdu (v:=0x3ff0000000000000) (by decide) (by decide) (by decide+kernel) (by decide+kernel) (by decide+kernel))]
 decide+kernel
def tB:List UInt8:=[104,116,116,112,123,99,111,100,101,61,34,50,48,48,34,44,112,97,116,104,61,34,47,97,92,34,98,34,125,32,51,53,48,32,45,49,55]
theorem lB:qhg sB=(0,tB):=by decide+kernel
def xT:List UInt8:=[35,32,84,89,80,69,32,97,32,99,111,117,110,116,101,114,10,35,32,84,89,80,69,32,97,32,99,111,117,110,116,101,114]
def lT:List UInt8:=[35,32,84,89,80,69,32,97,32,99,111,117,110,116,101,114]
theorem aT1:qck qg2 lT=(0,⟨[],[([97],[99,111,117,110,116,101,114])],[]⟩):=by
 unfold qck;rw[show kindN lT=3 by decide+kernel]
 decide+kernel
theorem aT2:(qck ⟨[],[([97],[99,111,117,110,116,101,114])],[]⟩ lT).1=238:=by
 unfold qck;rw[show kindN lT=3 by decide+kernel]
 decide+kernel
theorem pT:qeJ xT=(238,2,qg2):=by
 unfold qeJ;rw[if_neg (by decide),show L.linesL xT=[lT,lT] by decide+kernel];rw[qbl,aT1,if_pos rfl,qbl,if_neg (by rw[aT2];decide),aT2];rfl
def xH:List UInt8:=[35,32,72,69,76,80,32,97,32,116,119,111,92,110,108,105,110,101,115,10,35,32,101,108,115,101]
def lH:List UInt8:=[35,32,72,69,76,80,32,97,32,116,119,111,92,110,108,105,110,101,115]
def lE:List UInt8:=[35,32,101,108,115,101]
def bH:Bdy:=⟨[],[],[([97],[116,119,111,10,108,105,110,101,115])]⟩
theorem aH1:qck qg2 lH=(0,bH):=by
 unfold qck;rw[show kindN lH=2 by decide+kernel]
 decide+kernel
theorem kE:kindN lE=4:=by decide+kernel
theorem aH2:qck bH lE=(0,bH):=by
 unfold qck;rw[kE];rfl
theorem pH:qeJ xH=(0,0,bH):=by
 unfold qeJ;rw[if_neg (by decide),show L.linesL xH=[lH,lE] by decide+kernel];rw[qbl,aH1,if_pos rfl,qbl,aH2,if_pos rfl,qbl]
theorem qtq:Tryz.prog.fieldsOf 44=#[{name:= "Name",type:=9,offset:=0,embedded:=false,tag:= "",pkgPath:= "",byteOffset:=0},{name:= "Value",type:=9,offset:=1,embedded:=false,tag:= "",pkgPath:= "",byteOffset:=16}]:=by
 unfold Program.fieldsOf;rw[Tryz.underlying44]
theorem qtR:Tryz.prog.underlying 44=some (.struct (Tryz.prog.fieldsOf 44)):=by rw[qtq];exact Tryz.underlying44
theorem qtL:Tryz.prog.stoodInHeld 44=false:=by kernel_rfl
theorem qtW (s t p q:ByteArray) (w:World):(Op.equalIn 10000 44 (.agg #[.string s,.string p]) (.agg #[.string t,.string q])).run Tryz.prog w= .ok ((s.toList==t.toList)&&(p.toList==q.toList)) w:=by
 rw[show(10000:Nat)=9999+1 from rfl,run_equalIn_struct w 9999 44 _ _ qtR qtL,qtq];have h9:=Tryz.underlying9;have ps:(part 9 #[.string s,.string p] 0).run Tryz.prog w= .ok (.string s) w:=by simp[part,isAgg,run_underlying h9]
 have pt:(part 9 #[.string t,.string q] 0).run Tryz.prog w= .ok (.string t) w:=by simp[part,isAgg,run_underlying h9]
 have pp:(part 9 #[.string s,.string p] 1).run Tryz.prog w= .ok (.string p) w:=by simp[part,isAgg,run_underlying h9]
 have pq:(part 9 #[.string t,.string q] 1).run Tryz.prog w= .ok (.string q) w:=by simp[part,isAgg,run_underlying h9]
 have e1:=run_equalIn_string (P:=Tryz.prog) w 9998 9 s t h9;have e2:=run_equalIn_string (P:=Tryz.prog) w 9998 9 p q h9;have hn1:("Name" :String)≠ "_" :=by decide
 have hn2:("Value" :String)≠ "_" :=by decide
 simp only[Op.eqFields,ne_eq,hn1,hn2,not_false_eq_true,if_true,Sem.run_bind,ps,pt,pp,pq,Result.andThen_ok,e1,e2,Sem.run_ite,Sem.run_pure];cases (s.toList==t.toList)<;>cases (p.toList==q.toList)<;>rfl
theorem qts:Tryz.prog.fieldsOf 90=#[{name:= "Name",type:=9,offset:=0,embedded:=false,tag:= "",pkgPath:= "",byteOffset:=0},{name:= "Text",type:=9,offset:=1,embedded:=false,tag:= "",pkgPath:= "",byteOffset:=16}]:=by
 unfold Program.fieldsOf;rw[Tryz.underlying90]
theorem qtF:Tryz.prog.underlying 90=some (.struct (Tryz.prog.fieldsOf 90)):=by rw[qts];exact Tryz.underlying90
theorem qtO:Tryz.prog.stoodInHeld 90=false:=by kernel_rfl
theorem qtI (s t p q:ByteArray) (w:World):(Op.equalIn 10000 90 (.agg #[.string s,.string p]) (.agg #[.string t,.string q])).run Tryz.prog w= .ok ((s.toList==t.toList)&&(p.toList==q.toList)) w:=by
 rw[show(10000:Nat)=9999+1 from rfl,run_equalIn_struct w 9999 90 _ _ qtF qtO,qts];have h9:=Tryz.underlying9;have ps:(part 9 #[.string s,.string p] 0).run Tryz.prog w= .ok (.string s) w:=by simp[part,isAgg,run_underlying h9]
 have pt:(part 9 #[.string t,.string q] 0).run Tryz.prog w= .ok (.string t) w:=by simp[part,isAgg,run_underlying h9]
 have pp:(part 9 #[.string s,.string p] 1).run Tryz.prog w= .ok (.string p) w:=by simp[part,isAgg,run_underlying h9]
 have pq:(part 9 #[.string t,.string q] 1).run Tryz.prog w= .ok (.string q) w:=by simp[part,isAgg,run_underlying h9]
 have e1:=run_equalIn_string (P:=Tryz.prog) w 9998 9 s t h9;have e2:=run_equalIn_string (P:=Tryz.prog) w 9998 9 p q h9;have hn1:("Name" :String)≠ "_" :=by decide
 have hn2:("Text" :String)≠ "_" :=by decide
 simp only[Op.eqFields,ne_eq,hn1,hn2,not_false_eq_true,if_true,Sem.run_bind,ps,pt,pp,pq,Result.andThen_ok,e1,e2,Sem.run_ite,Sem.run_pure];cases (s.toList==t.toList)<;>cases (p.toList==q.toList)<;>rfl
theorem qln (a b:List Lb) (i:Nat) (h:a.take i=b.take i) (ha:i<a.length) (hb:i<b.length) (he:a.getD i lb0=b.getD i lb0):a.take (i+1)=b.take (i+1):=by
 rw[List.getD_eq_getElem?_getD,List.getD_eq_getElem?_getD,List.getElem?_eq_getElem ha,List.getElem?_eq_getElem hb] at he;rw[List.take_add_one,List.take_add_one,h,List.getElem?_eq_getElem ha,List.getElem?_eq_getElem hb];have:a[i]=b[i]:=he;rw[this]
theorem qnF (va vb:Value) (la lb:List Lb) (hl1:la.length≤1000000000) (hl2:lb.length≤1000000000) (w:World) (ha:qaN w va la) (hb:qaN w vb lb):Calls Tryz.prog 76 #[va,vb] w fun e w'=>e= .returned (.bool (decide (la=lb)))∧Below w.heap.size w w':=by
 obtain⟨R,hR⟩: ∃R,Hid (R=decide (la=lb)):=⟨_,Lh rfl⟩;rw[←hR.out];obtain⟨aa,ca,rfl⟩:=ha.shape;obtain⟨ab,cb,rfl⟩:=hb.shape;have E44:=qtW;have HA:=Lh ha;have HB:=Lh hb;clear ha hb;obtain⟨n,hn⟩: ∃n,n=la.length:=⟨_,rfl⟩;obtain⟨m,hm⟩: ∃m,m=lb.length:=⟨_,rfl⟩;have hnh:=Lh hn;have hmh:=Lh hm;rw[←hn] at hl1⊢;rw[←hm] at hl2⊢;clear hn hm
 by_cases hl:n=m
 ·subst hl;have t1:((n:Int) !=(n:Int))=false:=by simp
  go_enter Tryz.func76,Tryz.ntmps76;go_wp2_with fail;go_loopg [5] (n+1) (fun gk s5 wx=> ∃i:Nat,i≤n∧n - i<gk∧s5= .int .i64 (i:Int)∧Hid (la.take i=lb.take i)∧Hid (Below w.heap.size w wx))
  case atStart=>exact⟨0,by omega,by omega,rfl,Lh rfl,Lh (Below.refl _ _)⟩
  case round=>
   obtain⟨i,hi,hgk,rfl,hT,hB⟩:=hrel
   by_cases hlt:i<n
   ·have u2:decide ((i:Int)<(n:Int))=true:=dT (by omega);have u3:decide (i<n)=true:=dT hlt;obtain⟨ba,oa,rfl,_,x0,x1⟩:=(HA.out.on hB.out).at' i (by rw[←hnh.out];exact hlt);obtain⟨bb,ob,rfl,_,y0,y1⟩:=(HB.out.on hB.out).at' i (by rw[←hmh.out];exact hlt);obtain⟨x,hx⟩: ∃x,Hid (x=la.getD i lb0):=⟨_,Lh rfl⟩;obtain⟨y,hy⟩: ∃y,Hid (y=lb.getD i lb0):=⟨_,Lh rfl⟩;rw[←hx.out] at x0 x1;rw[←hy.out] at y0 y1;have e1:((BS x.1).toList==(BS y.1).toList)=(x.1==y.1):=by rw[qad,qad]
    have e2:((BS x.2).toList==(BS y.2).toList)=(x.2==y.2):=by rw[qad,qad]
    have hxy:Hid ((x.1==y.1&&x.2==y.2)=decide (x=y)):=Lh (by
     rw[Bool.eq_iff_iff,Bool.and_eq_true,beq_iff_eq,beq_iff_eq,decide_eq_true_iff]
     exact⟨fun h=>Prod.ext h.1 h.2,fun h=>by rw[h];exact⟨rfl,rfl⟩⟩)
    obtain⟨b1,hb1⟩: ∃b,(x.1==y.1)=b:=⟨_,rfl⟩;obtain⟨b2,hb2⟩: ∃b,(x.2==y.2)=b:=⟨_,rfl⟩;rw[hb1] at e1 hxy;rw[hb2] at e2 hxy;clear hb1 hb2
    by_cases he:x=y
    ·have hb:(b1&&b2)=true:=by rw[hxy.out];exact dT he
     have hb':=hb;rw[Bool.and_eq_true] at hb';obtain⟨rfl,rfl⟩:=hb';have hT2:=Lh (qln la lb i hT.out (by rw[←hnh.out];exact hlt) (by rw[←hmh.out];exact hlt) (by rw[←hx.out,←hy.out];exact he));clear he hb hxy hT;go_upto_region 6 with (fail)
     go_quiet (fail);go_wp2_with fail;go_roundg (gk - 1)
     case measure=>omega
     case rel=>exact⟨i+1,by omega,by omega,by go_num,hT2,Lh (bq hB.out _)⟩
    ·have hb:(b1&&b2)=false:=by rw[hxy.out];exact dF he
     have hF:Hid (R=false):=Lh (by
      rw[hR.out];refine dF (fun e=>he ?_)
      rw[hx.out,hy.out,e])
     clear he hxy hT;go_upto_region 6 with (fail)
     go_quiet (fail);go_wp2_with fail;go_ret;exact⟨by rw[hF.out];rfl,bq hB.out _⟩
   ·obtain rfl:i=n:=by omega
    have u2:decide ((i:Int)<(i:Int))=false:=dF (by omega)
    have hF:Hid (R=true):=Lh (by
     rw[hR.out];refine dT ?_;have:=hT.out
     rwa[List.take_of_length_le (by rw[←hnh.out];exact Nat.le_refl _),List.take_of_length_le (by rw[←hmh.out];exact Nat.le_refl _)] at this)
    clear hT;go_wp2_with fail;go_ret;exact⟨by rw[hF.out];rfl,hB.out⟩
 ·have t1:((n:Int) !=(m:Int))=true:=by simp;omega
  have hF:Hid (R=false):=Lh (by
   rw[hR.out];refine dF (fun e=>hl ?_)
   rw[hnh.out,hmh.out,e])
  go_enter Tryz.func76,Tryz.ntmps76;go_wp2_with fail;go_ret;exact⟨by rw[hF.out];rfl,Below.refl _ _⟩
def qqk (a b:Smp):Bool:=decide (a.ls=b.ls)&&(decide (a.bits=b.bits)&&((a.st==b.st)&&decide (a.t=b.t)))
theorem qe5 (a b:Smp):qqk a b=true↔a=b:=by
 obtain⟨l,x,s,t⟩:=a;obtain⟨l',x',s',t'⟩:=b;unfold qqk;simp only[Bool.and_eq_true,decide_eq_true_eq,beq_iff_eq,Smp.mk.injEq]
theorem qjL (va vb:Value) (a b:Smp) (hl1:a.ls.length≤1000000000) (hl2:b.ls.length≤1000000000) (w:World) (ha:SIn w va a) (hb:SIn w vb b):Calls Tryz.prog 28 #[va,vb] w fun e w'=>e= .returned (.bool (qqk a b))∧Below w.heap.size w w':=by
 obtain⟨lva,rfl,ra⟩:=ha;obtain⟨lvb,rfl,rb⟩:=hb;obtain⟨l,x,s,t⟩:=a;obtain⟨l',x',s',t'⟩:=b;simp only at ra rb hl1 hl2⊢;have hF:Hid (qqk ⟨l,x,s,t⟩ ⟨l',x',s',t'⟩=(decide (l=l')&&(decide (x=x')&&((s==s')&&decide (t=t'))))):=Lh rfl;have B1:Below w.heap.size w (w.alloc (.cells #[lva,.int .u64 (x:Int),.bool s,.int .i64 t] 34)):=(Below.refl _ _).alloc (Nat.le_refl _) _;have A1:SB w.heap.size lva (x:Int) s t (w.alloc (.cells #[lva,.int .u64 (x:Int),.bool s,.int .i64 t] 34)):=World.alloc_heap_new w _;have B2:Below (w.alloc (.cells #[lva,.int .u64 (x:Int),.bool s,.int .i64 t] 34)).heap.size (w.alloc (.cells #[lva,.int .u64 (x:Int),.bool s,.int .i64 t] 34)) ((w.alloc (.cells #[lva,.int .u64 (x:Int),.bool s,.int .i64 t] 34)).alloc (.cells #[lvb,.int .u64 (x':Int),.bool s',.int .i64 t'] 34)):=(Below.refl _ _).alloc (Nat.le_refl _) _;have A2:=A1.on B2
 have N2:SB (w.heap.size+1) lvb (x':Int) s' t' ((w.alloc (.cells #[lva,.int .u64 (x:Int),.bool s,.int .i64 t] 34)).alloc (.cells #[lvb,.int .u64 (x':Int),.bool s',.int .i64 t'] 34)):=by
  have:=World.alloc_heap_new (w.alloc (.cells #[lva,.int .u64 (x:Int),.bool s,.int .i64 t] 34)) (.cells #[lvb,.int .u64 (x':Int),.bool s',.int .i64 t'] 34);rw[World.size_alloc] at this;exact this
 have C:=Lh (B1.trans (B2.mono B1.size));have cl:=qnF lva lvb l l' hl1 hl2 _ (ra.on C.out) (rb.on C.out);obtain⟨q0,h0⟩: ∃q,decide (l=l')=q:=⟨_,rfl⟩;obtain⟨q1,h1⟩: ∃q,decide (x=x')=q:=⟨_,rfl⟩;obtain⟨q3,h3⟩: ∃q,decide (t=t')=q:=⟨_,rfl⟩;have u1:(((x:Nat):Int)==((x':Nat):Int))=q1:=by rw[←h1,Bool.eq_iff_iff,beq_iff_eq,decide_eq_true_iff];omega
 have u3:(t==t')=q3:=by rw[←h3];rfl
 rw[h0] at cl hF;rw[h1,h3] at hF;have k0:=A2.c0;have j0:=N2.c0;generalize hW:(w.alloc (.cells #[lva,.int .u64 (x:Int),.bool s,.int .i64 t] 34)).alloc (.cells #[lvb,.int .u64 (x':Int),.bool s',.int .i64 t'] 34)=W at cl A2 N2 C k0 j0;replace hW:=Lh hW;replace cl:=Lh cl;replace A2:=Lh A2;replace N2:=Lh N2;clear h0 h1 h3 ra rb A1 B1 B2;obtain⟨sq,hsq⟩: ∃q,(s==s')=q:=⟨_,rfl⟩;rw[hsq] at hF;replace hsq:=Lh hsq;cases q0
 case false=>
  have hF2:Hid (qqk ⟨l,x,s,t⟩ ⟨l',x',s',t'⟩=false):=Lh (by rw[hF.out];rfl);clear hF u1 u3;go_enter Tryz.func28,Tryz.ntmps28;go_wp2_with fail;rw[hW.out];go_wp2_with fail;refine cl.out.mono ?_;rintro e w3 ⟨rfl,B3⟩;have C3:=Lh (C.out.trans (B3.mono C.out.size));clear B3;go_wp2_with fail;go_ret;exact⟨by rw[hF2.out];rfl,C3.out⟩
 case true=>
  cases q1
  all_goals cases s
  all_goals cases s'
  all_goals cases q3
  all_goals
   obtain rfl:=hsq.out;have hF2:=Lh hF.out;clear hF hsq;go_enter Tryz.func28,Tryz.ntmps28;go_wp2_with fail;rw[hW.out];go_wp2_with fail;refine cl.out.mono ?_;rintro e w3 ⟨rfl,B3⟩;have A3:=A2.out.on B3;have N3:=N2.out.on B3;have k1:=A3.c1;have k2:=A3.c2;have k3:=A3.c3;have j1:=N3.c1;have j2:=N3.c2;have j3:=N3.c3;have C3:=Lh (C.out.trans (B3.mono C.out.size));clear B3 A3 N3;go_wp2_with fail;go_ret;exact⟨by rw[hF2.out];rfl,C3.out⟩
def qep (ts:List (List UInt8)) (j:Nat):List Lb:=(List.range j).map fun i=>(ts.getD (2*i) [],ts.getD (2*i+1) [])
theorem qiY (ts:List (List UInt8)) (j:Nat):qep ts (j+1)=qep ts j++[(ts.getD (2*j) [],ts.getD (2*j+1) [])]:=by
 unfold qep;rw[List.range_succ,List.map_append];rfl
theorem qlj (ts:List (List UInt8)) (j:Nat):(qep ts j).length=j:=by unfold qep;simp
theorem qeC (w:World) (o:Obj):Below w.heap.size w (w.drew.alloc o):=((Below.refl w.heap.size w).drew).alloc (Nat.le_refl _) _
theorem qld (b c m:Nat) (ts:List (List UInt8)) (hm:ts.length=2*m) (hl:m≤1000) (w:World) (h:qcN w b ts):
 Calls Tryz.prog 42 #[.slice (some ⟨b,0,none⟩) (2*m) c] w fun e w'=> ∃v,e= .returned v∧w'.ownsRow w.heap.size 44 2 v (qep ts m).length (qaa (qep ts m))∧Below w.heap.size w w':=by
 have H:=Lh h;have hmh:=Lh hm;obtain⟨M,hM⟩: ∃M,M=2*m:=⟨_,rfl⟩;have hMh:=Lh hM;rw[←hM];have hM2:M≤2000:=by omega
 have own0:Hid (w.ownsRow w.heap.size 44 2 (.slice none 0 0) 0 (qaa (qep ts 0))):=Lh ⟨rfl,.inl ⟨rfl,rfl⟩⟩;clear h hm hM;go_enter Tryz.func42,Tryz.ntmps42;go_wp2_with fail;go_loopg [3,4] (m+1) (fun gk s3 s4 wx=> ∃j:Nat,j≤m∧m - j<gk∧s4= .int .i64 ((2*j:Nat):Int)∧Hid (wx.ownsRow w.heap.size 44 2 s3 j (qaa (qep ts j)))∧Hid (Below w.heap.size w wx))
 case atStart=>exact⟨0,by omega,by omega,rfl,own0,Lh (Below.refl _ _)⟩
 case round=>
  clear own0;obtain⟨j,hj,hgk,rfl,own,B⟩:=hrel;have hbs:=B.out.size;have hM':=hMh.out
  by_cases hlt:j<m
  ·have u2:decide ((((2*j:Nat):Int)+1)<(M:Int))=true:=dT (by omega);have u3:decide (2*j+1<M)=true:=dT (by omega);have T:=H.out.on B.out;have x0:=T.2 (2*j) (by rw[hmh.out];omega);have x1:=T.2 (2*j+1) (by rw[hmh.out];omega);have hbl:=T.1;have hp:=Lh (qiY ts j);obtain⟨s0,hs0⟩: ∃s,s=ts.getD (2*j) []:=⟨_,rfl⟩;obtain⟨s1,hs1⟩: ∃s,s=ts.getD (2*j+1) []:=⟨_,rfl⟩;rw[←hs0] at x0 hp;rw[←hs1] at x1 hp;obtain⟨i,hi⟩: ∃i,i=2*j:=⟨_,rfl⟩;have hiM:i+1<M:=by omega
   have hih:=Lh hi;have hi0:i<M:=by omega
   have qw:IntKind.i64.wrap ((i:Int)+1)=((i+1:Nat):Int):=(IntWalk.i64_in _ ⟨by omega,by omega⟩).trans (by omega);have q0:(0:Int)≤(i:Int)+1:=by omega
   have q1:(i:Int)+1<(M:Int):=by omega
   rw[←hi] at x0 x1 u2 u3⊢;have e2:(((i:Nat):Int)+2)=((2*(j+1):Nat):Int):=by omega
   replace e2:=Lh e2;clear hs0 hs1 T hi hM';obtain⟨va,vc,rfl⟩:=qae own.out;go_upto_region 5 with (fail)
   go_region_law ((refine qco rfl (.tmp 12) (.tmp 23) 32 rfl w.heap.size 44 2 (by decide) (.agg #[.string ⟨#[]⟩,.string ⟨#[]⟩]) 32 (by kernel_rfl) qcJ rfl _ j (qaa (qep ts j)) rfl _ [.string (BS s0),.string (BS s1)] rfl rfl (qah own.out (qeC wr _)) (qbd _ _ _ 44 (World.alloc_heap_new wr.drew _)) (by intro c hc;simp at hc;rcases hc with rfl|rfl<;>rfl) (by decide) (by omega) (by simp;omega) ?_;intro v2 W2 hown' hb2' hs2' hk2';have own2:=Lh hown';have B2:=Lh ((B.out.trans ((qeC wr _).mono hbs)).trans hb2');clear hown' hb2' hs2' hk2'))
   all_goals go_wp2_with fail
   all_goals go_roundg (gk - 1)
   all_goals first
    |omega
    |exact⟨j+1,by omega,by omega,by rw[←e2.out],by rw[hp.out,qb9];exact own2,B2⟩
  ·obtain rfl:j=m:=by omega
   have u2:decide ((((2*j:Nat):Int)+1)<(M:Int))=false:=dF (by omega);have u3:decide (2*j+1<M)=false:=dF (by omega);obtain⟨va,vc,rfl⟩:=qae own.out;go_wp2_with fail;go_ret;exact⟨_,rfl,by rw[qlj];exact own.out,B.out⟩
def qb4 (W:World) (v:Value) (ss:List Smp):Prop:=
 (∃a c,(a=none→c=0)∧v= .slice a 0 c∧ss=[])∨
 ∃b off cap,v= .slice (some ⟨b,off,none⟩) ss.length cap∧b<W.heap.size∧ss.length≤cap∧cap≤maxLen∧
  ∀i,i<ss.length→ ∃lv,(W.cell? ⟨b,off+i*4,none⟩=some lv∧W.cell? ⟨b,off+i*4+1,none⟩=some (.int .u64 ((ss.getD i qbj).bits:Int))∧W.cell? ⟨b,off+i*4+2,none⟩=some (.bool (ss.getD i qbj).st)∧W.cell? ⟨b,off+i*4+3,none⟩=some (.int .i64 (ss.getD i qbj).t))∧qaN W lv (ss.getD i qbj).ls
theorem qb4.on {w W:World} {v:Value} {ss:List Smp} (h:qb4 w v ss) (hb:Below w.heap.size w W):qb4 W v ss:=by
 rcases h with h|⟨b,off,cap,h1,h2,h3,h4,h5⟩
 ·exact .inl h
 ·refine .inr ⟨b,off,cap,h1,Nat.lt_of_lt_of_le h2 hb.size,h3,h4,fun i hi=>?_⟩;obtain⟨lv,⟨c0,c1,c2,c3⟩,hl⟩:=h5 i hi;have k:=fun o=>hb.cell (p:=⟨b,o,none⟩) h2
  exact⟨lv,⟨(k _).trans c0,(k _).trans c1,(k _).trans c2,(k _).trans c3⟩,hl.on hb⟩
theorem qb4.shape {w:World} {v:Value} {ss:List Smp} (h:qb4 w v ss): ∃a c,v= .slice a ss.length c:=by
 rcases h with ⟨a,c,_,h1,h2⟩|⟨b,off,cap,h1,_⟩
 ·exact⟨_,_,by rw[h1,h2];rfl⟩
 ·exact⟨_,_,h1⟩
theorem qb4.at' {w:World} {a:Option Addr} {n c:Nat} {ss:List Smp} (h:qb4 w (.slice a n c) ss) (i:Nat) (hi:i<ss.length): ∃b off lv,a=some ⟨b,off,none⟩∧b<w.heap.size∧(w.cell? ⟨b,off+i*4,none⟩=some lv∧w.cell? ⟨b,off+i*4+1,none⟩=some (.int .u64 ((ss.getD i qbj).bits:Int))∧w.cell? ⟨b,off+i*4+2,none⟩=some (.bool (ss.getD i qbj).st)∧w.cell? ⟨b,off+i*4+3,none⟩=some (.int .i64 (ss.getD i qbj).t))∧qaN w lv (ss.getD i qbj).ls:=by
 rcases h with ⟨_,_,_,h1,h2⟩|⟨b,off,cap,h1,h2,_,_,h5⟩
 ·rw[h2] at hi;simp at hi
 ·obtain⟨rfl,_,_⟩:=(Value.slice.injEq ..).mp h1;obtain⟨lv,hc,hl⟩:=h5 i hi;exact⟨b,off,lv,rfl,h2,hc,hl⟩
theorem qiL (a b:List Smp) (i:Nat) (h:a.take i=b.take i) (ha:i<a.length) (hb:i<b.length) (he:a.getD i qbj=b.getD i qbj):a.take (i+1)=b.take (i+1):=by
 rw[List.getD_eq_getElem?_getD,List.getD_eq_getElem?_getD,List.getElem?_eq_getElem ha,List.getElem?_eq_getElem hb] at he;rw[List.take_add_one,List.take_add_one,h,List.getElem?_eq_getElem ha,List.getElem?_eq_getElem hb];have:a[i]=b[i]:=he;rw[this]
noncomputable def qmS (a b:List Smp):Bool:=@decide (a=b) (Classical.propDecidable _)
theorem qcx (a b:List Smp):qmS a b=true↔a=b:=by unfold qmS;simp
theorem qil (va vb:Value) (la lb:List Smp) (hl1:la.length≤1000000000) (hl2:lb.length≤1000000000) (hq1: ∀s∈la,s.ls.length≤1000000000) (hq2: ∀s∈lb,s.ls.length≤1000000000) (w:World) (ha:qb4 w va la) (hb:qb4 w vb lb):
 Calls Tryz.prog 35 #[va,vb] w fun e w'=>e= .returned (.bool (qmS la lb))∧Below w.heap.size w w':=by
 obtain⟨R,hR⟩: ∃R,Hid (R=qmS la lb):=⟨_,Lh rfl⟩;rw[←hR.out];obtain⟨aa,ca,rfl⟩:=ha.shape;obtain⟨ab,cb,rfl⟩:=hb.shape;have HA:=Lh ha;have HB:=Lh hb;have hq1h:=Lh hq1;have hq2h:=Lh hq2;clear ha hb hq1 hq2;obtain⟨n,hn⟩: ∃n,n=la.length:=⟨_,rfl⟩;obtain⟨m,hm⟩: ∃m,m=lb.length:=⟨_,rfl⟩;have hnh:=Lh hn;have hmh:=Lh hm;rw[←hn] at hl1⊢;rw[←hm] at hl2⊢;clear hn hm
 by_cases hl:n=m
 ·subst hl;have t1:((n:Int) !=(n:Int))=false:=by simp
  go_enter Tryz.func35,Tryz.ntmps35;go_wp2_with fail;go_loopg [5] (n+1) (fun gk s5 wx=> ∃i:Nat,i≤n∧n - i<gk∧s5= .int .i64 (i:Int)∧Hid (la.take i=lb.take i)∧Hid (Below w.heap.size w wx))
  case atStart=>exact⟨0,by omega,by omega,rfl,Lh rfl,Lh (Below.refl _ _)⟩
  case round=>
   obtain⟨i,hi,hgk,rfl,hT,hB⟩:=hrel
   by_cases hlt:i<n
   ·have u2:decide ((i:Int)<(n:Int))=true:=dT (by omega);have u3:decide (i<n)=true:=dT hlt;have ia:i<la.length:=by rw[←hnh.out];exact hlt
    have ib:i<lb.length:=by rw[←hmh.out];exact hlt
    obtain⟨ba,oa,lva,rfl,_,⟨x0,x1,x2,x3⟩,hxl⟩:=(HA.out.on hB.out).at' i ia;obtain⟨bb,ob,lvb,rfl,_,⟨y0,y1,y2,y3⟩,hyl⟩:=(HB.out.on hB.out).at' i ib;obtain⟨x,hx⟩: ∃x,Hid (x=la.getD i qbj):=⟨_,Lh rfl⟩;obtain⟨y,hy⟩: ∃y,Hid (y=lb.getD i qbj):=⟨_,Lh rfl⟩;rw[←hx.out] at x1 x2 x3 hxl;rw[←hy.out] at y1 y2 y3 hyl;have hxm:x.ls.length≤1000000000:=hq1h.out x (by rw[hx.out,List.getD_eq_getElem?_getD,List.getElem?_eq_getElem ia];exact List.getElem_mem _);have hym:y.ls.length≤1000000000:=hq2h.out y (by rw[hy.out,List.getD_eq_getElem?_getD,List.getElem?_eq_getElem ib];exact List.getElem_mem _);obtain⟨la1,lc1,rfl⟩:=hxl.shape;obtain⟨la2,lc2,rfl⟩:=hyl.shape;have cs:=Lh (fun W (hb:Below wr.heap.size wr W)=>qjL _ _ x y hxm hym W ⟨_,rfl,hxl.on hb⟩ ⟨_,rfl,hyl.on hb⟩);have hsz:=hB.out.size;clear hxm hym
    by_cases he:x=y
    ·have hT2:=Lh (qiL la lb i hT.out ia ib (by rw[←hx.out,←hy.out];exact he));have hse:qqk x y=true:=(qe5 x y).2 he;have cs':=Lh (fun W (hb:Below wr.heap.size wr W)=>by have:=cs.out W hb;rwa[hse] at this);clear he hT ia ib cs hse;go_upto_region 6 with (fail)
     go_still_tail 8,(by kernel_rfl)
     change wpList _ _ _ _ _ wr.drew
     have hbd:Hid (Below wr.heap.size wr wr.drew):=Lh ((Below.refl _ _).drew);generalize wr.drew=w2 at hbd⊢;go_wp2_with fail;refine(cs'.out _ hbd.out).mono ?_;rintro e w3 ⟨rfl,B3⟩;have B4:=Lh (hB.out.trans ((hbd.out.trans (B3.mono hbd.out.size)).mono hsz));clear B3 cs';go_wp2_with fail;go_roundg (gk - 1)
     case measure=>omega
     case rel=>exact⟨i+1,by omega,by omega,by go_num,hT2,B4⟩
    ·have hF:Hid (R=false):=Lh (by
      rw[hR.out,←Bool.not_eq_true,qcx];intro e;apply he
      rw[hx.out,hy.out,e])
     have hse:qqk x y=false:=by rw[←Bool.not_eq_true,qe5];exact he
     have cs':=Lh (fun W (hb:Below wr.heap.size wr W)=>by have:=cs.out W hb;rwa[hse] at this);clear he hT ia ib cs hse;go_upto_region 6 with (fail)
     go_still_tail 8,(by kernel_rfl)
     change wpList _ _ _ _ _ wr.drew
     have hbd:Hid (Below wr.heap.size wr wr.drew):=Lh ((Below.refl _ _).drew);generalize wr.drew=w2 at hbd⊢;go_wp2_with fail;refine(cs'.out _ hbd.out).mono ?_;rintro e w3 ⟨rfl,B3⟩;have B4:=Lh (hB.out.trans ((hbd.out.trans (B3.mono hbd.out.size)).mono hsz));clear B3 cs';go_wp2_with fail;go_ret;exact⟨by rw[hF.out];rfl,B4.out⟩
   ·obtain rfl:i=n:=by omega
    have u2:decide ((i:Int)<(i:Int))=false:=dF (by omega)
    have hF:Hid (R=true):=Lh (by
     rw[hR.out,qcx];have:=hT.out
     rwa[List.take_of_length_le (by rw[←hnh.out];exact Nat.le_refl _),List.take_of_length_le (by rw[←hmh.out];exact Nat.le_refl _)] at this)
    clear hT;go_wp2_with fail;go_ret;exact⟨by rw[hF.out];rfl,hB.out⟩
 ·have t1:((n:Int) !=(m:Int))=true:=by simp;omega
  have hF:Hid (R=false):=Lh (by
   rw[hR.out,←Bool.not_eq_true,qcx];intro e;apply hl
   rw[hnh.out,hmh.out,e])
  go_enter Tryz.func35,Tryz.ntmps35;go_wp2_with fail;go_ret;exact⟨by rw[hF.out];rfl,Below.refl _ _⟩
end Go.Proofs.YtdeimnnpcfncpaaGreatDoor.X
