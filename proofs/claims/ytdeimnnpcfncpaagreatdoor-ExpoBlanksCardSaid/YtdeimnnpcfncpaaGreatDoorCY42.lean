/- Parts of the proof: P7 P8. -/
import Derived.Test.YtdeimnnpcfncpaaGreatDoorCY39
set_option linter.unusedVariables false
set_option linter.unusedSimpArgs false
set_option maxRecDepth 100000
set_option maxHeartbeats 64000000
section
namespace Go.Proofs.YtdeimnnpcfncpaaGreatDoor.X
open Go Go.RowKit
theorem qaN.of_own {W:World} {base e:Nat} {v:Value} {ls:List Lb} (h:W.ownsRow base e 2 v ls.length (qaa ls)):qaN W v ls:=by
 rcases h.2 with ⟨h1,h2⟩|⟨g,cap,cur,h1,h2,h3,h4,h5,h6,h7⟩
 ·exact .inl ⟨none,0,fun _=>rfl,h1,List.eq_nil_of_length_eq_zero h2⟩
 ·refine .inr ⟨g,0,cap,h1,(Array.getElem?_eq_some_iff.1 h3).1,h4,h5,fun i hi=>?_⟩
  have hc: ∀j,j<ls.length*2→W.cell? ⟨g,j,none⟩=(qaa ls)[j]?:=fun j hj=>by
   rw[Lib.cell_of_heap h3,←h7,List.getElem?_take_of_lt hj];simp
  rw[Nat.zero_add,hc _ (by omega),hc _ (by omega)];exact qbL ls i hi
theorem SmI.appType {base D B0:Nat} {W W1 W2:World} {b:Bdy} {sv tv hv v2:Value} {ps:List SV} {x:Lb} (I:SmI base D W b sv tv hv ps) (hb:Below W.heap.size W W1) (hbs:base≤W.heap.size)
 (hown:W2.ownsRow base 88 2 v2 (b.t.length+1) (qaa b.t++qaX x)) (hb2:Below base W1 W2) (hs:W1.heap.size≤W2.heap.size) (hk: ∀row,tv.ownBlock≠some row→row<W1.heap.size→W2.heap[row]?=W1.heap[row]?) (h1:B0≤D) (h2:B0≤base):
 BdR base D {b with t:=b.t++[x]} (W2.setCell ⟨D,1,none⟩ v2)∧Kept D W (W2.setCell ⟨D,1,none⟩ v2)∧Below B0 W (W2.setCell ⟨D,1,none⟩ v2):=by
 have s1:=qah I.t hb;have hD1:W1.heap[D]?=some (.cells #[sv,tv,hv] 66 (0,0)):=(hb.block D (Array.getElem?_eq_some_iff.1 I.h).1).trans I.h
 have hD2:W2.heap[D]?=some (.cells #[sv,tv,hv] 66 (0,0)):=by
  refine(hk D (fun e=>?_) (Array.getElem?_eq_some_iff.1 hD1).1).trans hD1;rcases s1.2 with ⟨rfl,_⟩|⟨g,cap,cur,rfl,_,h3,_⟩
  ·cases e
  ·cases e;rw[hD1] at h3;simp only[Option.some.injEq,Obj.cells.injEq] at h3;exact absurd h3.2.1 (by decide)
 have O3:=qai W2 D 1 v2;refine⟨⟨sv,v2,hv,?_,⟨ps,I.m,?_,?_⟩,?_,?_⟩,?_,?_⟩
 ·simp[World.setCell,Array.getElem?_modify,hD2]
 ·exact qaL (qaA (qah I.s hb) s1 (by decide) hk) O3 hD2 (by decide)
 ·exact fun p hp=>qaL (qaA (qah (I.l p hp) hb) s1 (by decide) hk) O3 hD2 (by decide)
 ·rw[List.length_append,qb9];exact qaL (by simpa [qaa] using hown) O3 hD2 (by decide)
 ·exact qaL (qaA (qah I.p hb) s1 (by decide) hk) O3 hD2 (by decide)
 ·exact((Kept.of hb).trans (qdG s1 (.inr (.inl rfl)) hb2 hs hk)).trans (Kept.set W2 1 v2)
 ·exact((hb.mono (Nat.le_trans h2 hbs)).trans (hb2.mono h2)).setCell (p:=⟨D,1,none⟩) h1 _
theorem qcv {base D E:Nat} {W W1 W2:World} {b:Bdy} {sv tv hv:Value} {ps:List SV} {m k:List UInt8} (I:SmI base D W b sv tv hv ps) (N:LB 88 E m k W) (hne:tv.ownBlock≠some E) (hb:Below W.heap.size W W1)
 (hk: ∀row,tv.ownBlock≠some row→row<W1.heap.size→W2.heap[row]?=W1.heap[row]?):
 W2.cell? ⟨D,1,none⟩=some tv∧W2.cell? ⟨E,0,none⟩=some (.string (BS m))∧W2.cell? ⟨E,1,none⟩=some (.string (BS k))∧W2.frozen? ⟨D,1,none⟩=false:=by
 have s1:=qah I.t hb;have hD1:W1.heap[D]?=some (.cells #[sv,tv,hv] 66 (0,0)):=(hb.block D (Array.getElem?_eq_some_iff.1 I.h).1).trans I.h
 have hD2:W2.heap[D]?=some (.cells #[sv,tv,hv] 66 (0,0)):=by
  refine(hk D (fun e=>?_) (Array.getElem?_eq_some_iff.1 hD1).1).trans hD1;rcases s1.2 with ⟨rfl,_⟩|⟨g,cap,cur,rfl,_,h3,_⟩
  ·cases e
  ·cases e;rw[hD1] at h3;simp only[Option.some.injEq,Obj.cells.injEq] at h3;exact absurd h3.2.1 (by decide)
 have N1:=N.on hb;have N2:LB 88 E m k W2:=(hk E hne N1.lt).trans N1;exact⟨by rw[Lib.cell_of_heap hD2];rfl,N2.c0,N2.c1,Lib.frozen_of_heap hD2 1⟩
theorem qlY (base B0 D:Nat) (b:Bdy) (l:List UInt8) (hl:l.length≤65536) (hk:kindN l=3) (w:World) (hI:BdR base D b w) (h1:B0≤D) (h2:B0≤base) (h3:base≤w.heap.size) (hn:b.t.length≤70000):
 Calls Tryz.prog 89 #[.pointer (some ⟨D,0,none⟩),.string (BS l)] w (qir base B0 D (qck b l) w):=by
 have hR:Hid (qck b l=(if (qdn l).1=0∧qb2 b.t (qdn l).2.1=true then 238 else (qdn l).1,{b with t:=b.t++[(qdn l).2]})):=Lh (by unfold qck;rw[hk];rfl);have ck:=qdI l hl w;rw[hk] at ck;have ck':Hid (Calls Tryz.prog 36 #[.string (BS l)] w fun e w'=>e= .returned (.string ⟨#[116,121,112,101]⟩)∧Below w.heap.size w w'):=Lh ck;have tk:(⟨#[116,121,112,101]⟩:ByteArray).toList=[116,121,112,101]:=by rw[ByteArray.toList_eq]
 have hIh:=Lh hI;obtain⟨R,hRR⟩: ∃R,R=qck b l:=⟨_,rfl⟩;rw[←hRR] at hR⊢;clear ck hI hRR hk;go_enter Tryz.func89,Tryz.ntmps89;go_wp2_with fail;refine ck'.out.mono ?_;rintro e w1 ⟨rfl,B1⟩;have I1:=Lh (qdY hIh.out B1);have K1:=Lh (Kept.of (D:=D) B1);have F1:=Lh (B1.mono (Nat.le_trans h2 h3));have h31:base≤w1.heap.size:=Nat.le_trans h3 B1.size;have cr:=qpf l hl w1;unfold qml at cr;obtain⟨re,m,k,hrs⟩: ∃re m k,qdn l=(re,(m,k)):=⟨_,_,_,rfl⟩;rw[hrs] at cr hR;simp only at cr hR;replace cr:=Lh cr;clear B1 ck' hrs hIh;go_wp2_with fail;refine cr.out.mono ?_;rintro e w2 ⟨rfl,B2⟩;have I2:=qdY I1.out B2;have K2:=K1.out.trans (Kept.of (D:=D) B2);have F2:=F1.out.trans (B2.mono (Nat.le_trans h2 h31));have h32:base≤w2.heap.size:=Nat.le_trans h31 B2.size;have Ba:Below w2.heap.size w2 (w2.alloc (.cells #[.string (BS m),.string (BS k)] 88)):=(Below.refl _ _).alloc (Nat.le_refl _) _;have N3:LB 88 w2.heap.size m k (w2.alloc (.cells #[.string (BS m),.string (BS k)] 88)):=World.alloc_heap_new w2 _;have K3:=Lh (K2.trans (Kept.of (D:=D) Ba));have F3:=Lh (F2.trans (Ba.mono (Nat.le_trans h2 h32)));obtain⟨sv,tv,hv,p1,⟨ps,p2,p3,p4⟩,p5,p6⟩:=I2
 have hnb:tv.ownBlock≠some w2.heap.size:=fun e=>by
  have:=(p5.lt _ e).2;omega
 have V3:=SmI.on ⟨p1,p2,p3,p4,p5,p6⟩ Ba;obtain⟨sa,sc,rfl⟩:=qae p5;have LR3:=qaN.of_own V3.t;have d0:(w2.alloc (.cells #[.string (BS m),.string (BS k)] 88)).cell? ⟨D,1,none⟩=some (.slice sa b.t.length sc):=by rw[Lib.cell_of_heap V3.h];rfl
 have fD:=Lib.frozen_of_heap V3.h 1;have k0:=N3.c0;have k1:=N3.c1;have hsz3:base≤(w2.alloc (.cells #[.string (BS m),.string (BS k)] 88)).heap.size:=by rw[World.size_alloc];omega
 have hD3:D<(w2.alloc (.cells #[.string (BS m),.string (BS k)] 88)).heap.size:=(Array.getElem?_eq_some_iff.1 V3.h).1;have cc:=Lh (qqN _ b.t m (by omega) w2.heap.size _ (by rw[World.size_alloc];omega) k0 LR3);replace LR3:=Lh LR3;obtain⟨cnt,hcnt⟩: ∃c,c=b.t.length:=⟨_,rfl⟩;rw[←hcnt] at d0 V3 hnb cc hn;replace hcnt:=Lh hcnt;replace V3:=Lh V3;clear B2 I1 K1 F1 cr Ba K2 F2 p1 p2 p3 p4 p5 p6 tk;obtain⟨hb5,hhb⟩: ∃hb5,qb2 b.t m=hb5:=⟨_,rfl⟩;rw[hhb] at cc hR;obtain⟨r1,hr1⟩: ∃r1,Hid (r1=(if re=0∧hb5=true then 238 else re)):=⟨_,Lh rfl⟩;rw[←hr1.out] at hR;replace N3:=Lh N3;clear hhb
 by_cases he:re=0
 ·subst he
  cases hb5 with
  |true=>
   obtain rfl:r1=238:=by rw[hr1.out];exact if_pos ⟨rfl,rfl⟩
   clear hr1;go_wp2_with fail;refine cc.out.mono ?_;rintro e w4 ⟨rfl,B4⟩;have V4:=Lh (V3.out.on B4);have N4:=N3.out.on B4;have K4:=Lh (K3.out.trans (Kept.of (D:=D) B4));have F4:=Lh (F3.out.trans (B4.mono (Nat.le_trans h2 hsz3)));have hsz4:base≤w4.heap.size:=Nat.le_trans hsz3 B4.size;have hD4:D<w4.heap.size:=(Array.getElem?_eq_some_iff.1 V4.out.h).1;have d0:w4.cell? ⟨D,1,none⟩=some (.slice sa cnt sc):=by rw[Lib.cell_of_heap V4.out.h];rfl
   have fD:=Lib.frozen_of_heap V4.out.h 1;have k0:=N4.c0;have k1:=N4.c1;replace N4:=Lh N4;have hnb4:=hnb;clear V3 N3 K3 F3 hsz3 B4 cc LR3 hnb hD3;go_upto_region 12 with (fail)
   obtain⟨E5,hE5⟩: ∃E,E=w2.heap.size:=⟨_,rfl⟩;rw[←hE5] at k0 k1 N4 hnb4⊢;clear hE5;go_region_law ((refine qco rfl (.tmp 62) (.tmp 64) 63 rfl base 88 2 (by decide) (.agg #[.string ⟨#[]⟩,.string ⟨#[]⟩]) 32 (by kernel_rfl) qlk rfl _ cnt (qaa b.t) rfl _ [.string (BS m),.string (BS k)] rfl rfl (qe9 (qah V4.out.t (qaj w4 _)) hcnt.out) (qbd _ _ _ 88 (World.alloc_heap_new w4.drew _)) (by intro c hc;simp at hc;rcases hc with rfl|rfl<;>rfl) (by decide) (by omega) (by simp;omega) ?_;intro v2 W2 hown' hb2' hs2' hk2';obtain⟨va,vc,rfl⟩:=qae hown';obtain⟨e0,e1,e2,e3⟩:=qcv V4.out N4.out hnb4 (qaj w4 _) hk2';have fin:=Lh (V4.out.appType (x:=(m,k)) (qaj w4 _) hsz4 (by rw[←hcnt.out];exact hown') hb2' hs2' hk2' h1 h2);clear hown' hb2' hs2' hk2'))
   all_goals go_wp2_with fail
   all_goals go_ret
   all_goals exact⟨by rw[hR.out];rfl,by rw[hR.out];exact fin.out.1,K4.out.trans fin.out.2.1,F4.out.trans fin.out.2.2⟩
  |false=>
   obtain rfl:r1=0:=by rw[hr1.out];exact if_neg (by simp)
   clear hr1;go_wp2_with fail;refine cc.out.mono ?_;rintro e w4 ⟨rfl,B4⟩;have V4:=Lh (V3.out.on B4);have N4:=N3.out.on B4;have K4:=Lh (K3.out.trans (Kept.of (D:=D) B4));have F4:=Lh (F3.out.trans (B4.mono (Nat.le_trans h2 hsz3)));have hsz4:base≤w4.heap.size:=Nat.le_trans hsz3 B4.size;have hD4:D<w4.heap.size:=(Array.getElem?_eq_some_iff.1 V4.out.h).1;have d0:w4.cell? ⟨D,1,none⟩=some (.slice sa cnt sc):=by rw[Lib.cell_of_heap V4.out.h];rfl
   have fD:=Lib.frozen_of_heap V4.out.h 1;have k0:=N4.c0;have k1:=N4.c1;replace N4:=Lh N4;have hnb4:=hnb;clear V3 N3 K3 F3 hsz3 B4 cc LR3 hnb hD3;go_upto_region 12 with (fail)
   obtain⟨E5,hE5⟩: ∃E,E=w2.heap.size:=⟨_,rfl⟩;rw[←hE5] at k0 k1 N4 hnb4⊢;clear hE5;go_region_law ((refine qco rfl (.tmp 62) (.tmp 64) 63 rfl base 88 2 (by decide) (.agg #[.string ⟨#[]⟩,.string ⟨#[]⟩]) 32 (by kernel_rfl) qlk rfl _ cnt (qaa b.t) rfl _ [.string (BS m),.string (BS k)] rfl rfl (qe9 (qah V4.out.t (qaj w4 _)) hcnt.out) (qbd _ _ _ 88 (World.alloc_heap_new w4.drew _)) (by intro c hc;simp at hc;rcases hc with rfl|rfl<;>rfl) (by decide) (by omega) (by simp;omega) ?_;intro v2 W2 hown' hb2' hs2' hk2';obtain⟨va,vc,rfl⟩:=qae hown';obtain⟨e0,e1,e2,e3⟩:=qcv V4.out N4.out hnb4 (qaj w4 _) hk2';have fin:=Lh (V4.out.appType (x:=(m,k)) (qaj w4 _) hsz4 (by rw[←hcnt.out];exact hown') hb2' hs2' hk2' h1 h2);clear hown' hb2' hs2' hk2'))
   all_goals go_wp2_with fail
   all_goals go_ret
   all_goals exact⟨by rw[hR.out];rfl,by rw[hR.out];exact fin.out.1,K4.out.trans fin.out.2.1,F4.out.trans fin.out.2.2⟩
 ·obtain hre:r1=re:=by rw[hr1.out];exact if_neg (fun h=>he h.1)
  subst hre;have u1:(r1==0)=false:=by simpa using he
  clear hr1 he cc;have B4:Below (w2.alloc (.cells #[.string (BS m),.string (BS k)] 88)).heap.size (w2.alloc (.cells #[.string (BS m),.string (BS k)] 88)) (w2.alloc (.cells #[.string (BS m),.string (BS k)] 88)):=Below.refl _ _;go_upto_region 12 with (fail)
  generalize w2.alloc (.cells #[.string (BS m),.string (BS k)] 88)=w4 at V3 F3 K3 hsz3 hD3 d0 fD k0 k1 N3 LR3 B4⊢;have V4:=V3;have N4:=N3;have K4:=K3;have F4:=F3;have hsz4:=hsz3;have hnb4:=hnb;obtain⟨E5,hE5⟩: ∃E,E=w2.heap.size:=⟨_,rfl⟩;rw[←hE5] at k0 k1 N4 hnb4⊢;clear hE5 V3 F3 K3 hsz3 N3 B4 hnb;go_region_law ((refine qco rfl (.tmp 62) (.tmp 64) 63 rfl base 88 2 (by decide) (.agg #[.string ⟨#[]⟩,.string ⟨#[]⟩]) 32 (by kernel_rfl) qlk rfl _ cnt (qaa b.t) rfl _ [.string (BS m),.string (BS k)] rfl rfl (qe9 (qah V4.out.t (qaj w4 _)) hcnt.out) (qbd _ _ _ 88 (World.alloc_heap_new w4.drew _)) (by intro c hc;simp at hc;rcases hc with rfl|rfl<;>rfl) (by decide) (by omega) (by simp;omega) ?_;intro v2 W2 hown' hb2' hs2' hk2';obtain⟨va,vc,rfl⟩:=qae hown';obtain⟨e0,e1,e2,e3⟩:=qcv V4.out N4.out hnb4 (qaj w4 _) hk2';have fin:=Lh (V4.out.appType (x:=(m,k)) (qaj w4 _) hsz4 (by rw[←hcnt.out];exact hown') hb2' hs2' hk2' h1 h2);clear hown' hb2' hs2' hk2'))
  all_goals go_wp2_with fail
  all_goals go_ret
  all_goals exact⟨by rw[hR.out];rfl,by rw[hR.out];exact fin.out.1,K4.out.trans fin.out.2.1,F4.out.trans fin.out.2.2⟩
theorem SmI.appHelp {base D B0:Nat} {W W1 W2:World} {b:Bdy} {sv tv hv v2:Value} {ps:List SV} {x:Lb} (I:SmI base D W b sv tv hv ps) (hb:Below W.heap.size W W1) (hbs:base≤W.heap.size)
 (hown:W2.ownsRow base 90 2 v2 (b.h.length+1) (qaa b.h++qaX x)) (hb2:Below base W1 W2) (hs:W1.heap.size≤W2.heap.size) (hk: ∀row,hv.ownBlock≠some row→row<W1.heap.size→W2.heap[row]?=W1.heap[row]?) (h1:B0≤D) (h2:B0≤base):
 BdR base D {b with h:=b.h++[x]} (W2.setCell ⟨D,2,none⟩ v2)∧Kept D W (W2.setCell ⟨D,2,none⟩ v2)∧Below B0 W (W2.setCell ⟨D,2,none⟩ v2):=by
 have s1:=qah I.p hb;have hD1:W1.heap[D]?=some (.cells #[sv,tv,hv] 66 (0,0)):=(hb.block D (Array.getElem?_eq_some_iff.1 I.h).1).trans I.h
 have hD2:W2.heap[D]?=some (.cells #[sv,tv,hv] 66 (0,0)):=by
  refine(hk D (fun e=>?_) (Array.getElem?_eq_some_iff.1 hD1).1).trans hD1;rcases s1.2 with ⟨rfl,_⟩|⟨g,cap,cur,rfl,_,h3,_⟩
  ·cases e
  ·cases e;rw[hD1] at h3;simp only[Option.some.injEq,Obj.cells.injEq] at h3;exact absurd h3.2.1 (by decide)
 have O3:=qai W2 D 2 v2;refine⟨⟨sv,tv,v2,?_,⟨ps,I.m,?_,?_⟩,?_,?_⟩,?_,?_⟩
 ·simp[World.setCell,Array.getElem?_modify,hD2]
 ·exact qaL (qaA (qah I.s hb) s1 (by decide) hk) O3 hD2 (by decide)
 ·exact fun p hp=>qaL (qaA (qah (I.l p hp) hb) s1 (by decide) hk) O3 hD2 (by decide)
 ·exact qaL (qaA (qah I.t hb) s1 (by decide) hk) O3 hD2 (by decide)
 ·rw[List.length_append,qb9];exact qaL (by simpa [qaa] using hown) O3 hD2 (by decide)
 ·exact((Kept.of hb).trans (qdG s1 (.inr (.inr rfl)) hb2 hs hk)).trans (Kept.set W2 2 v2)
 ·exact((hb.mono (Nat.le_trans h2 hbs)).trans (hb2.mono h2)).setCell (p:=⟨D,2,none⟩) h1 _
theorem qcu {base D E:Nat} {W W1 W2:World} {b:Bdy} {sv tv hv:Value} {ps:List SV} {m k:List UInt8} (I:SmI base D W b sv tv hv ps) (N:LB 90 E m k W) (hne:hv.ownBlock≠some E) (hb:Below W.heap.size W W1)
 (hk: ∀row,hv.ownBlock≠some row→row<W1.heap.size→W2.heap[row]?=W1.heap[row]?):
 W2.cell? ⟨D,2,none⟩=some hv∧W2.cell? ⟨E,0,none⟩=some (.string (BS m))∧W2.cell? ⟨E,1,none⟩=some (.string (BS k))∧W2.frozen? ⟨D,2,none⟩=false:=by
 have s1:=qah I.p hb;have hD1:W1.heap[D]?=some (.cells #[sv,tv,hv] 66 (0,0)):=(hb.block D (Array.getElem?_eq_some_iff.1 I.h).1).trans I.h
 have hD2:W2.heap[D]?=some (.cells #[sv,tv,hv] 66 (0,0)):=by
  refine(hk D (fun e=>?_) (Array.getElem?_eq_some_iff.1 hD1).1).trans hD1;rcases s1.2 with ⟨rfl,_⟩|⟨g,cap,cur,rfl,_,h3,_⟩
  ·cases e
  ·cases e;rw[hD1] at h3;simp only[Option.some.injEq,Obj.cells.injEq] at h3;exact absurd h3.2.1 (by decide)
 have N1:=N.on hb;have N2:LB 90 E m k W2:=(hk E hne N1.lt).trans N1;exact⟨by rw[Lib.cell_of_heap hD2];rfl,N2.c0,N2.c1,Lib.frozen_of_heap hD2 2⟩
theorem qnd (base B0 D:Nat) (b:Bdy) (l:List UInt8) (hl:l.length≤65536) (hk:kindN l=2) (w:World) (hI:BdR base D b w) (h1:B0≤D) (h2:B0≤base) (h3:base≤w.heap.size) (hn:b.h.length≤70000):
 Calls Tryz.prog 89 #[.pointer (some ⟨D,0,none⟩),.string (BS l)] w (qir base B0 D (qck b l) w):=by
 have hR:Hid (qck b l=(if (qds l).1=0∧qb2 b.h (qds l).2.1=true then 238 else (qds l).1,{b with h:=b.h++[(qds l).2]})):=Lh (by unfold qck;rw[hk];rfl);have ck:=qdI l hl w;rw[hk] at ck;have ck':Hid (Calls Tryz.prog 36 #[.string (BS l)] w fun e w'=>e= .returned (.string ⟨#[104,101,108,112]⟩)∧Below w.heap.size w w'):=Lh ck;have tk:(⟨#[104,101,108,112]⟩:ByteArray).toList=[104,101,108,112]:=by rw[ByteArray.toList_eq]
 have hIh:=Lh hI;obtain⟨R,hRR⟩: ∃R,R=qck b l:=⟨_,rfl⟩;rw[←hRR] at hR⊢;clear ck hI hRR hk;go_enter Tryz.func89,Tryz.ntmps89;go_wp2_with fail;refine ck'.out.mono ?_;rintro e w1 ⟨rfl,B1⟩;have I1:=Lh (qdY hIh.out B1);have K1:=Lh (Kept.of (D:=D) B1);have F1:=Lh (B1.mono (Nat.le_trans h2 h3));have h31:base≤w1.heap.size:=Nat.le_trans h3 B1.size;have cr:=qqs l hl w1;unfold qml at cr;obtain⟨re,m,k,hrs⟩: ∃re m k,qds l=(re,(m,k)):=⟨_,_,_,rfl⟩;rw[hrs] at cr hR;simp only at cr hR;replace cr:=Lh cr;clear B1 ck' hrs hIh;go_wp2_with fail;refine cr.out.mono ?_;rintro e w2 ⟨rfl,B2⟩;have I2:=qdY I1.out B2;have K2:=K1.out.trans (Kept.of (D:=D) B2);have F2:=F1.out.trans (B2.mono (Nat.le_trans h2 h31));have h32:base≤w2.heap.size:=Nat.le_trans h31 B2.size;have Ba:Below w2.heap.size w2 (w2.alloc (.cells #[.string (BS m),.string (BS k)] 90)):=(Below.refl _ _).alloc (Nat.le_refl _) _;have N3:LB 90 w2.heap.size m k (w2.alloc (.cells #[.string (BS m),.string (BS k)] 90)):=World.alloc_heap_new w2 _;have K3:=Lh (K2.trans (Kept.of (D:=D) Ba));have F3:=Lh (F2.trans (Ba.mono (Nat.le_trans h2 h32)));obtain⟨sv,tv,hv,p1,⟨ps,p2,p3,p4⟩,p5,p6⟩:=I2
 have hnb:hv.ownBlock≠some w2.heap.size:=fun e=>by
  have:=(p6.lt _ e).2;omega
 have V3:=SmI.on ⟨p1,p2,p3,p4,p5,p6⟩ Ba;obtain⟨sa,sc,rfl⟩:=qae p6;have LR3:=qaN.of_own V3.p;have d0:(w2.alloc (.cells #[.string (BS m),.string (BS k)] 90)).cell? ⟨D,2,none⟩=some (.slice sa b.h.length sc):=by rw[Lib.cell_of_heap V3.h];rfl
 have fD:=Lib.frozen_of_heap V3.h 2;have k0:=N3.c0;have k1:=N3.c1;have hsz3:base≤(w2.alloc (.cells #[.string (BS m),.string (BS k)] 90)).heap.size:=by rw[World.size_alloc];omega
 have hD3:D<(w2.alloc (.cells #[.string (BS m),.string (BS k)] 90)).heap.size:=(Array.getElem?_eq_some_iff.1 V3.h).1;have cc:=Lh (qrh _ b.h m (by omega) w2.heap.size _ (by rw[World.size_alloc];omega) k0 LR3);replace LR3:=Lh LR3;obtain⟨cnt,hcnt⟩: ∃c,c=b.h.length:=⟨_,rfl⟩;rw[←hcnt] at d0 V3 hnb cc hn;replace hcnt:=Lh hcnt;replace V3:=Lh V3;clear B2 I1 K1 F1 cr Ba K2 F2 p1 p2 p3 p4 p5 p6 tk;obtain⟨hb5,hhb⟩: ∃hb5,qb2 b.h m=hb5:=⟨_,rfl⟩;rw[hhb] at cc hR;obtain⟨r1,hr1⟩: ∃r1,Hid (r1=(if re=0∧hb5=true then 238 else re)):=⟨_,Lh rfl⟩;rw[←hr1.out] at hR;replace N3:=Lh N3;clear hhb
 by_cases he:re=0
 ·subst he
  cases hb5 with
  |true=>
   obtain rfl:r1=238:=by rw[hr1.out];exact if_pos ⟨rfl,rfl⟩
   clear hr1;go_wp2_with fail;refine cc.out.mono ?_;rintro e w4 ⟨rfl,B4⟩;have V4:=Lh (V3.out.on B4);have N4:=N3.out.on B4;have K4:=Lh (K3.out.trans (Kept.of (D:=D) B4));have F4:=Lh (F3.out.trans (B4.mono (Nat.le_trans h2 hsz3)));have hsz4:base≤w4.heap.size:=Nat.le_trans hsz3 B4.size;have hD4:D<w4.heap.size:=(Array.getElem?_eq_some_iff.1 V4.out.h).1;have d0:w4.cell? ⟨D,2,none⟩=some (.slice sa cnt sc):=by rw[Lib.cell_of_heap V4.out.h];rfl
   have fD:=Lib.frozen_of_heap V4.out.h 2;have k0:=N4.c0;have k1:=N4.c1;replace N4:=Lh N4;have hnb4:=hnb;clear V3 N3 K3 F3 hsz3 B4 cc LR3 hnb hD3;go_upto_region 18 with (fail)
   obtain⟨E5,hE5⟩: ∃E,E=w2.heap.size:=⟨_,rfl⟩;rw[←hE5] at k0 k1 N4 hnb4⊢;clear hE5;go_region_law ((refine qco rfl (.tmp 90) (.tmp 92) 64 rfl base 90 2 (by decide) (.agg #[.string ⟨#[]⟩,.string ⟨#[]⟩]) 32 (by kernel_rfl) qjw rfl _ cnt (qaa b.h) rfl _ [.string (BS m),.string (BS k)] rfl rfl (qe9 (qah V4.out.p (qaj w4 _)) hcnt.out) (qbd _ _ _ 90 (World.alloc_heap_new w4.drew _)) (by intro c hc;simp at hc;rcases hc with rfl|rfl<;>rfl) (by decide) (by omega) (by simp;omega) ?_;intro v2 W2 hown' hb2' hs2' hk2';obtain⟨va,vc,rfl⟩:=qae hown';obtain⟨e0,e1,e2,e3⟩:=qcu V4.out N4.out hnb4 (qaj w4 _) hk2';have fin:=Lh (V4.out.appHelp (x:=(m,k)) (qaj w4 _) hsz4 (by rw[←hcnt.out];exact hown') hb2' hs2' hk2' h1 h2);clear hown' hb2' hs2' hk2'))
   all_goals go_wp2_with fail
   all_goals go_ret
   all_goals exact⟨by rw[hR.out];rfl,by rw[hR.out];exact fin.out.1,K4.out.trans fin.out.2.1,F4.out.trans fin.out.2.2⟩
  |false=>
   obtain rfl:r1=0:=by rw[hr1.out];exact if_neg (by simp)
   clear hr1;go_wp2_with fail;refine cc.out.mono ?_;rintro e w4 ⟨rfl,B4⟩;have V4:=Lh (V3.out.on B4);have N4:=N3.out.on B4;have K4:=Lh (K3.out.trans (Kept.of (D:=D) B4));have F4:=Lh (F3.out.trans (B4.mono (Nat.le_trans h2 hsz3)));have hsz4:base≤w4.heap.size:=Nat.le_trans hsz3 B4.size;have hD4:D<w4.heap.size:=(Array.getElem?_eq_some_iff.1 V4.out.h).1;have d0:w4.cell? ⟨D,2,none⟩=some (.slice sa cnt sc):=by rw[Lib.cell_of_heap V4.out.h];rfl
   have fD:=Lib.frozen_of_heap V4.out.h 2;have k0:=N4.c0;have k1:=N4.c1;replace N4:=Lh N4;have hnb4:=hnb;clear V3 N3 K3 F3 hsz3 B4 cc LR3 hnb hD3;go_upto_region 18 with (fail)
   obtain⟨E5,hE5⟩: ∃E,E=w2.heap.size:=⟨_,rfl⟩;rw[←hE5] at k0 k1 N4 hnb4⊢;clear hE5;go_region_law ((refine qco rfl (.tmp 90) (.tmp 92) 64 rfl base 90 2 (by decide) (.agg #[.string ⟨#[]⟩,.string ⟨#[]⟩]) 32 (by kernel_rfl) qjw rfl _ cnt (qaa b.h) rfl _ [.string (BS m),.string (BS k)] rfl rfl (qe9 (qah V4.out.p (qaj w4 _)) hcnt.out) (qbd _ _ _ 90 (World.alloc_heap_new w4.drew _)) (by intro c hc;simp at hc;rcases hc with rfl|rfl<;>rfl) (by decide) (by omega) (by simp;omega) ?_;intro v2 W2 hown' hb2' hs2' hk2';obtain⟨va,vc,rfl⟩:=qae hown';obtain⟨e0,e1,e2,e3⟩:=qcu V4.out N4.out hnb4 (qaj w4 _) hk2';have fin:=Lh (V4.out.appHelp (x:=(m,k)) (qaj w4 _) hsz4 (by rw[←hcnt.out];exact hown') hb2' hs2' hk2' h1 h2);clear hown' hb2' hs2' hk2'))
   all_goals go_wp2_with fail
   all_goals go_ret
   all_goals exact⟨by rw[hR.out];rfl,by rw[hR.out];exact fin.out.1,K4.out.trans fin.out.2.1,F4.out.trans fin.out.2.2⟩
 ·obtain hre:r1=re:=by rw[hr1.out];exact if_neg (fun h=>he h.1)
  subst hre;have u1:(r1==0)=false:=by simpa using he
  clear hr1 he cc;have B4:Below (w2.alloc (.cells #[.string (BS m),.string (BS k)] 90)).heap.size (w2.alloc (.cells #[.string (BS m),.string (BS k)] 90)) (w2.alloc (.cells #[.string (BS m),.string (BS k)] 90)):=Below.refl _ _;go_upto_region 18 with (fail)
  generalize w2.alloc (.cells #[.string (BS m),.string (BS k)] 90)=w4 at V3 F3 K3 hsz3 hD3 d0 fD k0 k1 N3 LR3 B4⊢;have V4:=V3;have N4:=N3;have K4:=K3;have F4:=F3;have hsz4:=hsz3;have hnb4:=hnb;obtain⟨E5,hE5⟩: ∃E,E=w2.heap.size:=⟨_,rfl⟩;rw[←hE5] at k0 k1 N4 hnb4⊢;clear hE5 V3 F3 K3 hsz3 N3 B4 hnb;go_region_law ((refine qco rfl (.tmp 90) (.tmp 92) 64 rfl base 90 2 (by decide) (.agg #[.string ⟨#[]⟩,.string ⟨#[]⟩]) 32 (by kernel_rfl) qjw rfl _ cnt (qaa b.h) rfl _ [.string (BS m),.string (BS k)] rfl rfl (qe9 (qah V4.out.p (qaj w4 _)) hcnt.out) (qbd _ _ _ 90 (World.alloc_heap_new w4.drew _)) (by intro c hc;simp at hc;rcases hc with rfl|rfl<;>rfl) (by decide) (by omega) (by simp;omega) ?_;intro v2 W2 hown' hb2' hs2' hk2';obtain⟨va,vc,rfl⟩:=qae hown';obtain⟨e0,e1,e2,e3⟩:=qcu V4.out N4.out hnb4 (qaj w4 _) hk2';have fin:=Lh (V4.out.appHelp (x:=(m,k)) (qaj w4 _) hsz4 (by rw[←hcnt.out];exact hown') hb2' hs2' hk2' h1 h2);clear hown' hb2' hs2' hk2'))
  all_goals go_wp2_with fail
  all_goals go_ret
  all_goals exact⟨by rw[hR.out];rfl,by rw[hR.out];exact fin.out.1,K4.out.trans fin.out.2.1,F4.out.trans fin.out.2.2⟩
end Go.Proofs.YtdeimnnpcfncpaaGreatDoor.X
end
section
namespace Go.Proofs.YtdeimnnpcfncpaaGreatDoor.X
open Go Go.RowKit Go.Shelf
theorem qgv (base B0 D:Nat) (b:Bdy) (l:List UInt8) (hl:l.length≤65536) (hk:kindN l=0∨kindN l=4) (w:World) (hI:BdR base D b w) (h1:B0≤D) (h2:B0≤base) (h3:base≤w.heap.size):
 Calls Tryz.prog 89 #[.pointer (some ⟨D,0,none⟩),.string (BS l)] w (qir base B0 D (qck b l) w):=by
 have hR:Hid (qck b l=(0,b)):=Lh (by unfold qck;rcases hk with hk|hk<;>rw[hk]<;>rfl);have ck:=qdI l hl w;have hI0:=Lh (fun W (hb:Below w.heap.size w W)=>qdY hI hb);obtain⟨R,hRR⟩: ∃R,R=qck b l:=⟨_,rfl⟩;rw[←hRR] at hR⊢;clear hRR hI;rcases hk with hk|hk
 ·rw[hk] at ck;have ck':Hid (Calls Tryz.prog 36 #[.string (BS l)] w fun e w'=>e= .returned (.string ⟨#[101,109,112,116,121]⟩)∧Below w.heap.size w w'):=Lh ck;have tk:(⟨#[101,109,112,116,121]⟩:ByteArray).toList=[101,109,112,116,121]:=by rw[ByteArray.toList_eq]
  clear ck hk;go_enter Tryz.func89,Tryz.ntmps89;go_wp2_with fail;refine ck'.out.mono ?_;rintro e w1 ⟨rfl,B1⟩;have B1h:=Lh B1;clear B1;go_wp2_with fail;go_ret;exact⟨by rw[hR.out];rfl,by rw[hR.out];exact hI0.out _ B1h.out,Kept.of B1h.out,B1h.out.mono (Nat.le_trans h2 h3)⟩
 ·rw[hk] at ck;have ck':Hid (Calls Tryz.prog 36 #[.string (BS l)] w fun e w'=>e= .returned (.string ⟨#[99,111,109,109,101,110,116]⟩)∧Below w.heap.size w w'):=Lh ck;have tk:(⟨#[99,111,109,109,101,110,116]⟩:ByteArray).toList=[99,111,109,109,101,110,116]:=by rw[ByteArray.toList_eq]
  clear ck hk;go_enter Tryz.func89,Tryz.ntmps89;go_wp2_with fail;refine ck'.out.mono ?_;rintro e w1 ⟨rfl,B1⟩;have B1h:=Lh B1;clear B1;go_wp2_with fail;go_ret;exact⟨by rw[hR.out];rfl,by rw[hR.out];exact hI0.out _ B1h.out,Kept.of B1h.out,B1h.out.mono (Nat.le_trans h2 h3)⟩
theorem qlX (l:List UInt8):kindN l=0∨kindN l=1∨kindN l=2∨kindN l=3∨kindN l=4:=by
 unfold kindN
 repeat' split
 all_goals simp
theorem qq4 (base B0 D:Nat) (b:Bdy) (l:List UInt8) (hl:l.length≤65536) (hp:qqm (qdH l)) (w:World) (hG:EGlb w) (hI:BdR base D b w) (h1:B0≤D) (h2:B0≤base) (h3:base≤w.heap.size) (hs:b.s.length≤70000) (ht:b.t.length≤70000) (hh:b.h.length≤70000):
 Calls Tryz.prog 89 #[.pointer (some ⟨D,0,none⟩),.string (BS l)] w (qir base B0 D (qck b l) w):=by
 rcases qlX l with hk|hk|hk|hk|hk
 ·exact qgv base B0 D b l hl (.inl hk) w hI h1 h2 h3
 ·exact qio base B0 D b l hl hk hp w hG hI h1 h2 h3 hs
 ·exact qnd base B0 D b l hl hk w hI h1 h2 h3 hh
 ·exact qlY base B0 D b l hl hk w hI h1 h2 h3 ht
 ·exact qgv base B0 D b l hl (.inr hk) w hI h1 h2 h3
theorem qmX (b:Bdy) (l:List UInt8) (k:Nat) (h:b.s.length≤k∧b.t.length≤k∧b.h.length≤k):(qck b l).2.s.length≤k+1∧(qck b l).2.t.length≤k+1∧(qck b l).2.h.length≤k+1:=by
 obtain⟨h1,h2,h3⟩:=h;unfold qck
 split<;>simp<;>omega
def Bd3 (D:Nat) (a b c:Value) (W:World):Prop:=W.heap[D]?=some (.cells #[a,b,c] 66 (0,0))
section
variable {D:Nat} {a b c:Value} {W W':World}
theorem Bd3.c0 (h:Bd3 D a b c W):W.cell? ⟨D,0,none⟩=some a:=by rw[Lib.cell_of_heap h];rfl
theorem Bd3.c1 (h:Bd3 D a b c W):W.cell? ⟨D,1,none⟩=some b:=by rw[Lib.cell_of_heap h];rfl
theorem Bd3.c2 (h:Bd3 D a b c W):W.cell? ⟨D,2,none⟩=some c:=by rw[Lib.cell_of_heap h];rfl
theorem Bd3.fz (h:Bd3 D a b c W) (i:Nat):W.frozen? ⟨D,i,none⟩=false:=Lib.frozen_of_heap h i
theorem Bd3.other (h:Bd3 D a b c W) {E:Nat} (hn:D≠E) (i:Nat) (v:Value):Bd3 D a b c (W.setCell ⟨E,i,none⟩ v):=(Below.heap_setCell W ⟨E,i,none⟩ v D (by show¬D=E;exact hn)).trans h
theorem Bd3.set0 (h:Bd3 D a b c W) (v:Value):Bd3 D v b c (W.setCell ⟨D,0,none⟩ v):=by
 unfold Bd3 at h⊢;simp[World.setCell,Array.getElem?_modify,h]
theorem Bd3.set1 (h:Bd3 D a b c W) (v:Value):Bd3 D a v c (W.setCell ⟨D,1,none⟩ v):=by
 unfold Bd3 at h⊢;simp[World.setCell,Array.getElem?_modify,h]
theorem Bd3.set2 (h:Bd3 D a b c W) (v:Value):Bd3 D a b v (W.setCell ⟨D,2,none⟩ v):=by
 unfold Bd3 at h⊢;simp[World.setCell,Array.getElem?_modify,h]
end
theorem qcf {W W':World} {base e k n:Nat} {v:Value} {xs:List Value} {row:Option Nat} (h:W.ownsRow base e k v n xs) (hg:W.grownBy W' row) (hr: ∀r,row=some r→ ∃o:Obj,W.heap[r]?=some o∧o.isCells=false):W'.ownsRow base e k v n xs:=by
 refine⟨h.1,?_⟩;rcases h.2 with h'|⟨g,cap,cur,rfl,h2,h3,h4⟩
 ·exact .inl h'
 ·exact .inr ⟨g,cap,cur,rfl,h2,(hg.block g (Array.getElem?_eq_some_iff.1 h3).1 (fun e=>by obtain⟨o,ho,hc⟩:=hr g e.symm;rw[h3] at ho;cases ho;cases hc)).trans h3,h4⟩
theorem qar {W W':World} {B:Nat} {cs:Array Value} {t:TypeId} {fz:Nat×Nat} {row:Option Nat} (h:W.heap[B]?=some (.cells cs t fz)) (hg:W.grownBy W' row) (hr: ∀r,row=some r→ ∃o:Obj,W.heap[r]?=some o∧o.isCells=false):W'.heap[B]?=some (.cells cs t fz):=
 (hg.block B (Array.getElem?_eq_some_iff.1 h).1 (fun e=>by obtain⟨o,ho,hc⟩:=hr B e.symm;rw[h] at ho;cases ho;cases hc)).trans h
theorem qfE {W W':World} {base:Nat} {sv tv hv:Value} {b:Bdy} {row:Option Nat} (h:BdV base W sv tv hv b) (hg:W.grownBy W' row) (hr: ∀r,row=some r→ ∃o:Obj,W.heap[r]?=some o∧o.isCells=false):BdV base W' sv tv hv b:=by
 obtain⟨⟨ps,h1,h2,h3⟩,h4,h5⟩:=h;exact⟨⟨ps,h1,qcf h2 hg hr,fun p hp=>qcf (h3 p hp) hg hr⟩,qcf h4 hg hr,qcf h5 hg hr⟩
theorem qbQ {W W':World} {base D:Nat} {sv tv hv:Value} {b:Bdy} (h:BdV base W sv tv hv b) (hb:Only D W W') (hD:D<base):BdV base W' sv tv hv b:=by
 obtain⟨⟨ps,h1,h2,h3⟩,h4,h5⟩:=h;exact⟨⟨ps,h1,qam h2 hb hD,fun p hp=>qam (h3 p hp) hb hD⟩,qam h4 hb hD,qam h5 hb hD⟩
def PrI (w:World) (R:Int×Int×Bdy) (ls:List (List UInt8)) (k:Nat) (W:World):Prop:=
 (∃b:Bdy,(qbl k (ls.drop k) b=R∧b.s.length≤k∧b.t.length≤k∧b.h.length≤k)∧ ∃sv tv hv,Bd3 (w.heap.size+3) sv tv hv W∧BdV (w.heap.size+6) W sv tv hv b)∧
 (Bd3 w.heap.size (.slice none 0 0) (.slice none 0 0) (.slice none 0 0) W∧Boxed W (w.heap.size+1) 3 (.int .i64 0)∧Boxed W (w.heap.size+2) 37 (.int .i64 0)∧Boxed W (w.heap.size+4) 3 (.int .i64 (k:Int))∧ ∃u,Boxed W (w.heap.size+5) 9 u)∧w.heap.size+6≤W.heap.size∧Below w.heap.size w W
def PrX (w:World) (R:Int×Int×Bdy) (W:World):Prop:=
 ∃(e n:Int),R=(e,n,qg2)∧Bd3 w.heap.size (.slice none 0 0) (.slice none 0 0) (.slice none 0 0) W∧Boxed W (w.heap.size+1) 3 (.int .i64 n)∧Boxed W (w.heap.size+2) 37 (.int .i64 e)∧Below w.heap.size w W
theorem qqp (w:World) (R:Int×Int×Bdy) (ls:List (List UInt8)) (B:Nat) (hB:w.heap.size≤B):OwnFrom B (PrI w R ls):=by
 rintro k W W' row ⟨⟨b,h1,sv,tv,hv,h2,h3⟩,⟨g0,g1,g2,g4,u5,g5⟩,h5,h6⟩ hg hr;have hr': ∀r,row=some r→ ∃o:Obj,W.heap[r]?=some o∧o.isCells=false:=fun r e=>(hr r e).2
 exact⟨⟨b,h1,sv,tv,hv,qar h2 hg hr',qfE h3 hg hr'⟩,⟨qar g0 hg hr',qar g1 hg hr',qar g2 hg hr',qar g4 hg hr',u5,qar g5 hg hr'⟩,Nat.le_trans h5 hg.size,h6.grown hg (by have:=h6.size;omega) (fun k e=>Nat.le_trans hB (hr k e).1)⟩
theorem qpP (w:World) (R:Int×Int×Bdy) (B:Nat) (hB:w.heap.size≤B):OwnFrom B (fun (_:Unit) W=>PrX w R W):=by
 rintro _ W W' row ⟨e,n,h0,g0,g1,g2,h6⟩ hg hr;have hr': ∀r,row=some r→ ∃o:Obj,W.heap[r]?=some o∧o.isCells=false:=fun r e=>(hr r e).2
 exact⟨e,n,h0,qar g0 hg hr',qar g1 hg hr',qar g2 hg hr',h6.grown hg h6.size (fun k e=>Nat.le_trans hB (hr k e).1)⟩
theorem qo5 (w:World) (R:Int×Int×Bdy) (ls:List (List UInt8)) (k:Nat) (W:World) (u:Value) (h:PrI w R ls k W):PrI w R ls k (W.setCell ⟨w.heap.size+5,0,none⟩ u):=by
 obtain⟨⟨b,h1,sv,tv,hv,h2,h3⟩,⟨g0,g1,g2,g4,u5,g5⟩,h5,h6⟩:=h;exact⟨⟨b,h1,sv,tv,hv,h2.other (by omega) 0 u,qbQ h3 (qai W _ 0 u) (by omega)⟩,⟨g0.other (by omega) 0 u,g1.other (by omega) _,g2.other (by omega) _,g4.other (by omega) _,u,g5.set _⟩,by simpa using h5,h6.setCell (p:=⟨w.heap.size+5,0,none⟩) (by show w.heap.size≤w.heap.size+5;omega) _⟩
theorem qi3 {D:Nat} {W W':World} {cs:Array Value} {t:TypeId} {fz:Nat×Nat} (h:Kept D W W') (hD:W.heap[D]?=some (.cells cs t fz)):KeepsOthers W W':=
 ⟨h.size,fun j o hj ho=>h.block j o hj (fun e=>by subst e;rw[hD] at hj;cases hj;cases ho) (fun cur T fz e=>by subst e;cases ho)⟩
theorem qcd {D B:Nat} {W W':World} {t:TypeId} {v:Value} (h:Kept D W W') (hb:Boxed W B t v) (hn:B≠D) (ht:t≠34∧t≠88∧t≠90):Boxed W' B t v:=
 h.block B _ hb hn (fun cur T fz e=>by cases e;exact ht)
theorem qmJ {D B:Nat} {W W':World} {a b c:Value} (h:Kept D W W') (hb:Bd3 B a b c W) (hn:B≠D):Bd3 B a b c W':=
 h.block B _ hb hn (fun cur T fz e=>by cases e;exact⟨by decide,by decide,by decide⟩)
theorem qqe {w W:World} (h:EGlb w) (hb:Below w.heap.size w W):L.MaxG W:=by
 exact(h.on hb).b.m
end Go.Proofs.YtdeimnnpcfncpaaGreatDoor.X
end
