/- Parts of the proof: P9. -/
import Derived.RegionIn
import Derived.Sort.CutIn
import Derived.Test.YtdeimnnpcfncpaaGreatDoorCY42
set_option linter.unusedVariables false
set_option linter.unusedSimpArgs false
set_option maxRecDepth 100000
set_option maxHeartbeats 64000000
namespace Go.Proofs.YtdeimnnpcfncpaaGreatDoor.X
open Go Go.RowKit Go.Shelf L
attribute [local go_sem] Oper.semAt_some
theorem qoY (w:World) (s:ByteArray) (R:Int×Int×Bdy) (ls:List (List UInt8)) (hR:qbl 0 ls qg2=R):
 (∃W0,W0=((((((w.alloc (.cells #[.slice none 0 0,.slice none 0 0,.slice none 0 0] 66)).alloc (.cells #[.int .i64 0] 3)).alloc (.cells #[.int .i64 0] 37)).alloc (.cells #[.slice none 0 0,.slice none 0 0,.slice none 0 0] 66)).alloc (.cells #[.int .i64 0] 3)).alloc (.cells #[.string s] 9))∧PrI w R ls 0 W0∧Boxed W0 (w.heap.size+5) 9 (.string s)∧W0.heap.size=w.heap.size+6):=by
 have al: ∀(W:World) (o o':Obj) (k:Nat),W.heap[k]?=some o→(W.alloc o').heap[k]?=some o:=fun W o o' k h=>(Below.heap_alloc W o' k (Array.getElem?_eq_some_iff.1 h).1).trans h
 have nw: ∀(W:World) (o:Obj) (n:Nat),W.heap.size=n→(W.alloc o).heap[n]?=some o:=fun W o n h=>by subst h;exact World.alloc_heap_new W o
 have sz: ∀(W:World) (o:Obj) (n:Nat),W.heap.size=n→(W.alloc o).heap.size=n+1:=fun W o n h=>by rw[World.size_alloc,h]
 have s1:=sz w (.cells #[.slice none 0 0,.slice none 0 0,.slice none 0 0] 66) _ rfl;have s2:=sz _ (.cells #[.int .i64 0] 3) _ s1;have s3:=sz _ (.cells #[.int .i64 0] 37) _ s2;have s4:=sz _ (.cells #[.slice none 0 0,.slice none 0 0,.slice none 0 0] 66) _ s3;have s5:=sz _ (.cells #[.int .i64 0] 3) _ s4;have s6:=sz _ (.cells #[.string s] 9) _ s5;refine⟨_,rfl,⟨⟨qg2,⟨hR,Nat.le_refl _,Nat.le_refl _,Nat.le_refl _⟩,.slice none 0 0,.slice none 0 0,.slice none 0 0,?_,⟨[],rfl,⟨rfl,.inl ⟨rfl,rfl⟩⟩,fun p hp=>by cases hp⟩,⟨rfl,.inl ⟨rfl,rfl⟩⟩,⟨rfl,.inl ⟨rfl,rfl⟩⟩⟩,⟨?_,?_,?_,?_,.string s,?_⟩,by omega,?_⟩,?_,s6⟩
 ·exact al _ _ _ _ (al _ _ _ _ (nw _ _ _ s3))
 ·exact al _ _ _ _ (al _ _ _ _ (al _ _ _ _ (al _ _ _ _ (al _ _ _ _ (nw _ _ _ rfl)))))
 ·exact al _ _ _ _ (al _ _ _ _ (al _ _ _ _ (al _ _ _ _ (nw _ _ _ s1))))
 ·exact al _ _ _ _ (al _ _ _ _ (al _ _ _ _ (nw _ _ _ s2)))
 ·exact al _ _ _ _ (nw _ _ _ s4)
 ·exact nw _ _ _ s5
 ·exact((((((Below.refl _ w).alloc (Nat.le_refl _) _).alloc (by omega) _).alloc (by omega) _).alloc (by omega) _).alloc (by omega) _).alloc (by omega) _
 ·exact nw _ _ _ s5
def qi4 (D:Nat) (a b c:Value) (n e:Int) (A:World):World:=((((A.setCell ⟨D,0,none⟩ a).setCell ⟨D,1,none⟩ b).setCell ⟨D,2,none⟩ c).setCell ⟨D+1,0,none⟩ (.int .i64 n)).setCell ⟨D+2,0,none⟩ (.int .i64 e)
theorem qjX {w A:World} {a b c a' b' c':Value} {n e:Int} {v1 v2:Value} (g0:Bd3 w.heap.size a b c A) (g1:Boxed A (w.heap.size+1) 3 v1) (g2:Boxed A (w.heap.size+2) 37 v2) (hB:Below w.heap.size w A):
 Bd3 w.heap.size a' b' c' (qi4 w.heap.size a' b' c' n e A)∧Boxed (qi4 w.heap.size a' b' c' n e A) (w.heap.size+1) 3 (.int .i64 n)∧Boxed (qi4 w.heap.size a' b' c' n e A) (w.heap.size+2) 37 (.int .i64 e)∧Below w.heap.size w (qi4 w.heap.size a' b' c' n e A)∧KeepsOthers A (qi4 w.heap.size a' b' c' n e A):=by
 have o: ∀{B:Nat} {t:TypeId} {v:Value} {X:World},Boxed X B t v→B≠w.heap.size→ ∀i u,Boxed (X.setCell ⟨w.heap.size,i,none⟩ u) B t v:=fun {B t v X} h hn i u=>(Below.heap_setCell X ⟨w.heap.size,i,none⟩ u B (by show¬B=_;exact hn)).trans h
 refine⟨?_,?_,?_,?_,?_⟩
 ·exact(((g0.set0 a').set1 b').set2 c' |>.other (by omega) 0 _).other (by omega) 0 _
 ·exact(Boxed.set _ (o (o (o g1 (by omega) 0 a') (by omega) 1 b') (by omega) 2 c')).other (by omega) _
 ·exact Boxed.set _ ((o (o (o g2 (by omega) 0 a') (by omega) 1 b') (by omega) 2 c').other (by omega) _)
 ·exact((((hB.setCell (p:=⟨w.heap.size,0,none⟩) (Nat.le_refl _) _).setCell (p:=⟨w.heap.size,1,none⟩) (Nat.le_refl _) _).setCell (p:=⟨w.heap.size,2,none⟩) (Nat.le_refl _) _).setCell (p:=⟨w.heap.size+1,0,none⟩) (by show _≤w.heap.size+1;omega) _).setCell (p:=⟨w.heap.size+2,0,none⟩) (by show _≤w.heap.size+2;omega) _
 ·exact((((KeepsOthers.setCell _ _ _).trans (KeepsOthers.setCell _ _ _)).trans (KeepsOthers.setCell _ _ _)).trans (KeepsOthers.setCell _ _ _)).trans (KeepsOthers.setCell _ _ _)
theorem qsm {w A:World} {a b c:Value} {n e:Int} {v1 v2:Value} {R:Int×Int×Bdy} (hR:R=(e,n,qg2)) (g0:Bd3 w.heap.size a b c A) (g1:Boxed A (w.heap.size+1) 3 v1) (g2:Boxed A (w.heap.size+2) 37 v2) (hB:Below w.heap.size w A):
 KeepsOthers A (qi4 w.heap.size (.slice none 0 0) (.slice none 0 0) (.slice none 0 0) n e A).drew∧PrX w R (qi4 w.heap.size (.slice none 0 0) (.slice none 0 0) (.slice none 0 0) n e A).drew:=by
 obtain⟨x0,x1,x2,x3,x4⟩:=qjX (a':= .slice none 0 0) (b':= .slice none 0 0) (c':= .slice none 0 0) (n:=n) (e:=e) g0 g1 g2 hB;generalize qi4 w.heap.size (.slice none 0 0) (.slice none 0 0) (.slice none 0 0) n e A=F at*;exact⟨⟨x4.size,x4.same⟩,e,n,hR,x0,x1,x2,x3.drew⟩
theorem qly {base base':Nat} {W:World} {sv tv hv:Value} {b:Bdy} (h:BdV base W sv tv hv b) (hb:base'≤base):BdV base' W sv tv hv b:=by
 obtain⟨⟨ps,h1,h2,h3⟩,h4,h5⟩:=h;exact⟨⟨ps,h1,qaQ h2 hb,fun p hp=>qaQ (h3 p hp) hb⟩,qaQ h4 hb,qaQ h5 hb⟩
theorem qtG (base:Nat) (W:World):BdV base W (.slice none 0 0) (.slice none 0 0) (.slice none 0 0) qg2:=⟨⟨[],rfl,⟨rfl,.inl ⟨rfl,rfl⟩⟩,fun p hp=>by cases hp⟩,⟨rfl,.inl ⟨rfl,rfl⟩⟩,⟨rfl,.inl ⟨rfl,rfl⟩⟩⟩
theorem ql7 (l:List UInt8): ∀x∈linesL l,x.length≤l.length:=by
 fun_induction linesL l with
 |case1=>intro x hx;cases hx
 |case2 l h ih=>
  intro x hx;rcases List.mem_cons.1 hx with rfl|hx
  ·exact(List.takeWhile_prefix _).length_le
  ·have:=ih x hx;have:=qhe l h;omega
theorem qm3 (l:List UInt8) (hll:l.length≤65536) (hp: ∀x∈linesL l,qqm (qdH x)) (w:World) (hG:EGlb w) (e n:Int) (b:Bdy) (hP:qbl 0 (linesL l) qg2=(e,n,b)):
 CallsIn Fence.wide 9 Tryz.prog 32 #[.string (BS l)] w fun x W'=>(∃sv tv hv,x= .returned (.tuple #[.agg #[sv,tv,hv],.int .i64 n,.int .i64 e])∧BdV w.heap.size W' sv tv hv b)∧Below w.heap.size w W':=by
 have hro:Fence.wide.round=none:=rfl;have h1:1≤9:=by omega
 have hz:=qac l;have t1:decide ((65536:Int)<((BS l).size:Int))=false:=dF (by omega);have t2:decide ((65536:Int)<(l.length:Int))=false:=dF (by omega);refine callsIn_of_wp_marks Tryz.func32 rfl trivial ?_ hro;simp only[Tryz.ntmps32,List.size_toArray,List.length_cons,List.length_nil,Nat.reduceAdd,Nat.reduceSub,Array.replicate_succ,Array.replicate_zero,List.push_toArray,List.append_toArray,List.nil_append,List.cons_append];gi_wp2_with (refine⟨trivial,?_⟩;gi_at_call 88;refine(qni 8 _ _).mono ?_;rintro e w' ⟨rfl,rfl⟩);obtain⟨W0,hW0,hI0,hBx,hz0'⟩:=qoY w (BS l) (e,n,b) (linesL l) hP;rw[←hW0];clear hW0;have hkl:(linesL l).length≤l.length:=qeM l
 refine qqW hro h1 (gf:=151) (lb:=#[.pointer (some ⟨w.heap.size+5,0,none⟩)]) rfl trivial (enters_of Tryz.func151 (by kernel_rfl) rfl)
  (fun k=>#[.string ⟨((linesL l).getD k []).toArray⟩]) (linesL l).length (w.heap.size+5) (by omega) MaxG (qkI 9 (w.heap.size+5) (by omega) l hll W0 (by omega) hBx) (fun _=>rfl)
  (PrI w (e,n,b) (linesL l)) (PrX w (e,n,b)) (qqp w _ _ _ (by omega)) (qpP w _ _ (by omega)) (fun k A h=>qqe hG h.2.2.2) (fun k A v h=>qo5 w _ _ k A v h) hI0
  (fun k=>{tmps:=List.toArray (Value.string (BS l)::undef::Value.pointer (some ⟨w.heap.size,0,none⟩)::Value.pointer (some ⟨w.heap.size+1,0,none⟩)::Value.pointer (some ⟨w.heap.size+2,0,none⟩)::Value.pointer (some ⟨w.heap.size+3,0,none⟩)::Value.pointer (some ⟨w.heap.size+4,0,none⟩)::Value.string ⟨((linesL l).getD k []).toArray⟩::undef::Value.string (BS l)::Value.int .i64 l.length::Value.bool false::undef::Value.string (BS l)::Value.func (.func 151) #[] #[.pointer (some ⟨w.heap.size+5,0,none⟩)]::Value.string ⟨((linesL l).getD k []).toArray⟩::undef::undef::undef::undef::undef::undef::undef::undef::undef::undef::[]),defers:=[]}) ?assign ?body ?done ?stop
 case assign=>
  intro y k W K hK;gi_wp2;exact hK
 case body=>
  rintro y k W ⟨⟨b1,⟨hPk,c1,c2,c3⟩,sv,tv,hv,g3,hBV⟩,⟨g0,g1,g2,g4,u5,g5⟩,hsz,hB⟩ hk
  have hDr:(linesL l).drop k=(linesL l).getD k []::(linesL l).drop (k+1):=by
   rw[List.drop_eq_getElem_cons hk,List.getD_eq_getElem?_getD,List.getElem?_eq_getElem hk];rfl
  have hmem:(linesL l).getD k []∈linesL l:=by
   rw[List.getD_eq_getElem?_getD,List.getElem?_eq_getElem hk];exact List.getElem_mem _
  obtain⟨ln,hln⟩: ∃ln,Hid ((linesL l).getD k []=ln):=⟨_,rfl⟩;have hpl:=hp _ hmem;have hlnl:=ql7 l _ hmem;rw[hDr,hln.out,qbl] at hPk;rw[hln.out] at hpl hlnl⊢;obtain⟨e2,b2,ha⟩: ∃e2 b2,qck b1 ln=(e2,b2):=⟨_,_,rfl⟩;have hlens:=qmX b1 ln k ⟨c1,c2,c3⟩;rw[ha] at hPk hlens;simp only at hPk hlens;have O1:=qai W (w.heap.size+4) 0 (.int .i64 ((k+1:Nat):Int));have hB1:=hB.setCell (p:=⟨w.heap.size+4,0,none⟩) (by show w.heap.size≤w.heap.size+4;omega) (.int .i64 ((k+1:Nat):Int));have G3:=g3.other (E:=w.heap.size+4) (by omega) 0 (.int .i64 ((k+1:Nat):Int));have G0:=g0.other (E:=w.heap.size+4) (by omega) 0 (.int .i64 ((k+1:Nat):Int));have G1:=g1.other (B':=w.heap.size+4) (by omega) (.int .i64 ((k+1:Nat):Int));have G2:=g2.other (B':=w.heap.size+4) (by omega) (.int .i64 ((k+1:Nat):Int));have G4:=g4.set (.int .i64 ((k+1:Nat):Int));have hBV1:=qbQ hBV O1 (by omega);have hsz1:w.heap.size+6≤(W.setCell ⟨w.heap.size+4,0,none⟩ (.int .i64 ((k+1:Nat):Int))).heap.size:=by simpa using hsz
  have hK1:=KeepsOthers.setCell W ⟨w.heap.size+4,0,none⟩ (.int .i64 ((k+1:Nat):Int));have hcall:=qq4 (w.heap.size+6) (w.heap.size+3) (w.heap.size+3) b1 ln (by omega) hpl (W.setCell ⟨w.heap.size+4,0,none⟩ (.int .i64 ((k+1:Nat):Int))) (hG.on hB1) ⟨sv,tv,hv,G3,hBV1⟩ (Nat.le_refl _) (by omega) hsz1 (by omega) (by omega) (by omega);unfold qir at hcall;rw[ha] at hcall;simp only at hcall;have f4:=g4.cell;have z4:=g4.frozen;have q1:wrap64 ((k:Int)+1)=((k+1:Nat):Int):=(IntWalk.wrap64_in _ ⟨by omega,by omega⟩).trans (by omega);have G5:=g5.other (B':=w.heap.size+4) (by omega) (.int .i64 ((k+1:Nat):Int));have hcallh:Hid (∀v:Int,v=((k+1:Nat):Int)→Calls Tryz.prog 89 #[.pointer (some ⟨w.heap.size+3,0,none⟩),.string (BS ln)] (W.setCell ⟨w.heap.size+4,0,none⟩ (.int .i64 v)) fun e w'=>e= .returned (.int .i64 e2)∧BdR (w.heap.size+6) (w.heap.size+3) b2 w'∧Kept (w.heap.size+3) (W.setCell ⟨w.heap.size+4,0,none⟩ (.int .i64 ((k+1:Nat):Int))) w'∧Below (w.heap.size+3) (W.setCell ⟨w.heap.size+4,0,none⟩ (.int .i64 ((k+1:Nat):Int))) w'):=Lh (fun v hv=>by rw[hv];exact hcall);clear hcall hDr hI0 hBx hP hBV hBV1 g0 g1 g2 g3 hB hG hp hpl hsz O1 hmem;replace hPk:=Lh hPk;replace G0:=Lh G0;replace G1:=Lh G1;replace G2:=Lh G2;replace G4:=Lh G4;have G3h:=Lh G3;clear G3;replace hB1:=Lh hB1;replace hK1:=Lh hK1;replace G5:=Lh G5;have g5h:=Lh g5;clear g5;gi_wp2_with (refine⟨trivial,?_⟩;gi_at_call 89;fail);refine⟨trivial,?_⟩;refine(CallsIn.inRound y (callsIn_wide.2 (hcallh.out _ (by first|rfl|omega)))).mono ?_;rintro x w2 ⟨rfl,hb2,hkp,hbl⟩;have G0':=qmJ hkp G0.out (by omega);have G1':=qcd hkp G1.out (by omega) ⟨by decide,by decide,by decide⟩;have G2':=qcd hkp G2.out (by omega) ⟨by decide,by decide,by decide⟩;have G4':=qcd hkp G4.out (by omega) ⟨by decide,by decide,by decide⟩;have hB2:=hB1.out.trans (hbl.mono (by omega));obtain⟨sv2,tv2,hv2,g32,hBV2⟩:=hb2;have hsz2:w.heap.size+6≤w2.heap.size:=Nat.le_trans hsz1 hbl.size;have hKK:=Lh (hK1.out.trans (qi3 hkp G3h.out));have G5':=qcd hkp G5.out (by omega) ⟨by decide,by decide,by decide⟩
  have hSame:Hid (Same (w.heap.size+5) W w2):=Lh (by
   show w2.heap[w.heap.size+5]?=W.heap[w.heap.size+5]?
   rw[show w2.heap[w.heap.size+5]?=_ from G5',show W.heap[w.heap.size+5]?=_ from g5h.out])
  have hPkO:=hPk.out;clear hcallh hkp hbl hK1 G0 G1 G2 G4 G5 G3h hB1 g5h hPk f4 z4 q1
  by_cases he:e2=0
  ·subst he;rw[if_pos rfl] at hPkO;have hI2:Hid (PrI w (e,n,b) (linesL l) (k+1) w2):=Lh ⟨⟨b2,⟨hPkO,hlens.1,hlens.2.1,hlens.2.2⟩,sv2,tv2,hv2,g32,hBV2⟩,⟨G0',G1',G2',G4',u5,G5'⟩,hsz2,hB2⟩;clear hPkO g32 hBV2 G0' G1' G2' G4' G5' hB2;gi_wp2;exact⟨hKK.out,hSame.out,hI2.out⟩
  ·have u1:(e2 !=0)=true:=by simpa using he
   rw[if_neg he] at hPkO;have hR:=Lh hPkO.symm;clear hPkO he g32 hBV2 G5' hlens;have f0:=G0'.c0;have f1:=G0'.c1;have f2:=G0'.c2;have z0:=G0'.fz 0;have z1:=G0'.fz 1;have z2:=G0'.fz 2;have h1c:=G1'.cell;have h1f:=G1'.frozen;have h2c:=G2'.cell;have h2f:=G2'.frozen;have h4c:=G4'.cell;have FX:=Lh (qsm (w:=w) (A:=w2) (n:=(k:Int)+1) (e:=e2) (R:=(e,n,b)) (hR.out.trans (by rw[show((k+1:Nat):Int)=(k:Int)+1 by omega])) G0' G1' G2' hB2);clear G0' G1' G2' G4' hB2;gi_upto_region 10 with (fail)
   gi_region
   all_goals gi_wp2
   all_goals exact⟨hKK.out.trans FX.out.1,FX.out.2⟩
 case done=>
  rintro D W hD ⟨⟨b1,⟨hPk,-,-,-⟩,sv,tv,hv,g3,hBV⟩,⟨g0,g1,g2,g4,u5,g5⟩,hsz,hB⟩ hK;rw[List.drop_of_length_le (Nat.le_refl _),qbl] at hPk;simp only[Prod.mk.injEq] at hPk;obtain⟨rfl,rfl,rfl⟩:=hPk
  have hsh: ∀{e k n:Nat} {v:Value} {xs:List Value},W.ownsRow (w.heap.size+6) e k v n xs→ ∃a n c,v= .slice a n c:=fun h=>by
   obtain⟨a,c,h⟩:=qae h;exact⟨a,_,c,h⟩
  have hBVh:=Lh hBV;obtain⟨⟨ps,_,q1,_⟩,q2,q3⟩:=hBV;obtain⟨a1,m1,e1,rfl⟩:=hsh q1;obtain⟨a2,m2,e2,rfl⟩:=hsh q2;obtain⟨a3,m3,e3,rfl⟩:=hsh q3;have FX:=qjX (w:=w) (A:=W) (a':= .slice a1 m1 e1) (b':= .slice a2 m2 e2) (c':= .slice a3 m3 e3) (n:=0) (e:=0) g0 g1 g2 hB
  have EV:Hid (BdV (w.heap.size+6) (qi4 w.heap.size (.slice a1 m1 e1) (.slice a2 m2 e2) (.slice a3 m3 e3) 0 0 W) (.slice a1 m1 e1) (.slice a2 m2 e2) (.slice a3 m3 e3) b1):=Lh
   (qbQ (qbQ (qbQ (qbQ (qbQ hBVh.out (qai _ _ 0 _) (by omega)) (qai _ _ 1 _) (by omega)) (qai _ _ 2 _) (by omega)) (qai _ _ 0 _) (by omega)) (qai _ _ 0 _) (by omega))
  have EK:(qi4 w.heap.size (.slice a1 m1 e1) (.slice a2 m2 e2) (.slice a3 m3 e3) 0 0 W).heap[D]?=some (.deferred (some [])):=FX.2.2.2.2.same D _ hK rfl;have f0:=g0.c0;have f1:=g0.c1;have f2:=g0.c2;have z0:=g0.fz 0;have z1:=g0.fz 1;have z2:=g0.fz 2;have h1c:=g1.cell;have h1f:=g1.frozen;have h2c:=g2.cell;have h2f:=g2.frozen;have l0:=g3.c0;have l1:=g3.c1;have l2:=g3.c2;replace FX:=Lh FX;replace EK:=Lh EK;clear q1 q2 q3 g0 g1 g2 g3 g4 g5 hsh hBVh hB hI0 hBx hP hp hG;gi_wp2
  change bodyPostM _ _ _ _ _ _ _ (qi4 w.heap.size (.slice a1 m1 e1) (.slice a2 m2 e2) (.slice a3 m3 e3) 0 0 W)
  generalize qi4 w.heap.size (.slice a1 m1 e1) (.slice a2 m2 e2) (.slice a3 m3 e3) 0 0 W=W3 at FX EV EK⊢;clear f0 f1 f2 z0 z1 z2 h1c h1f h2c h2f l0 l1 l2;obtain⟨E0,E1,E2,EB,-⟩:=FX.out;have hpr: ∀r,(some D:Option Nat)=some r→ ∃o:Obj,W3.heap[r]?=some o∧o.isCells=false:=fun r e=>by cases e;exact⟨_,EK.out,rfl⟩
  have Z0:Bd3 w.heap.size (.slice a1 m1 e1) (.slice a2 m2 e2) (.slice a3 m3 e3) (W3.putObj D (.deferred none)):=qar E0 (grownBy_putObj' W3 D (.deferred none)) hpr;have f0:=Z0.c0;have f1:=Z0.c1;have f2:=Z0.c2;have f3:=Boxed.cell (qar E1 (grownBy_putObj' W3 D (.deferred none)) hpr:Boxed (W3.putObj D (.deferred none)) (w.heap.size+1) 3 (.int .i64 0));have f4:=Boxed.cell (qar E2 (grownBy_putObj' W3 D (.deferred none)) hpr:Boxed (W3.putObj D (.deferred none)) (w.heap.size+2) 37 (.int .i64 0));have EB2:=EB.trans (belowK_b (w:=w) (Nat.le_refl _) W3 D _ (.deferred none) (by omega) EK.out rfl rfl);have EV2:=qly (qfE EV.out (grownBy_putObj' W3 D (.deferred none)) hpr) (show w.heap.size≤w.heap.size+6 by omega);refine⟨by simp,.inl ⟨_,_,rfl,run_takeDeferred EK.out,?_⟩⟩;exact⟨.tuple #[.agg #[.slice a1 m1 e1,.slice a2 m2 e2,.slice a3 m3 e3],.int .i64 0,.int .i64 0],by simp[results,Tryz.results32,go_sem,f0,f1,f2,f3,f4],⟨_,_,_,rfl,EV2⟩,EB2⟩
 case stop=>
  rintro D W hD ⟨e',n',hR,g0,g1,g2,hB⟩ hK;have hdr:=belowK_b (w:=w) (Nat.le_refl _) W D _ (.deferred none) (by omega) hK rfl rfl;have hpr: ∀r,(some D:Option Nat)=some r→ ∃o:Obj,W.heap[r]?=some o∧o.isCells=false:=fun r e=>by cases e;exact⟨_,hK,rfl⟩
  have Z0:Bd3 w.heap.size (.slice none 0 0) (.slice none 0 0) (.slice none 0 0) (W.putObj D (.deferred none)):=qar g0 (grownBy_putObj' W D (.deferred none)) hpr;have f0:=Z0.c0;have f1:=Z0.c1;have f2:=Z0.c2;have f3:=Boxed.cell (qar g1 (grownBy_putObj' W D (.deferred none)) hpr:Boxed (W.putObj D (.deferred none)) (w.heap.size+1) 3 (.int .i64 n'));have f4:=Boxed.cell (qar g2 (grownBy_putObj' W D (.deferred none)) hpr:Boxed (W.putObj D (.deferred none)) (w.heap.size+2) 37 (.int .i64 e'));have hdr2:=Lh (hB.trans hdr);clear hdr hI0 hBx hp hG;gi_wp2;refine⟨by simp,.inl ⟨_,_,rfl,run_takeDeferred hK,?_⟩⟩;have hR':=hR;simp only[Prod.mk.injEq] at hR';obtain⟨rfl,rfl,rfl⟩:=hR';exact⟨.tuple #[.agg #[.slice none 0 0,.slice none 0 0,.slice none 0 0],.int .i64 n,.int .i64 e],by simp[results,Tryz.results32,go_sem,f0,f1,f2,f3,f4],⟨_,_,_,rfl,qtG _ _⟩,hdr2.out⟩
end Go.Proofs.YtdeimnnpcfncpaaGreatDoor.X
