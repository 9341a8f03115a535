/- Parts of the proof: T5 T6 T9a T9. -/
import Derived.Test.YtdeimnnpcfncpaaGreatDoorCB46
set_option linter.unusedVariables false
set_option linter.unusedSimpArgs false
set_option maxRecDepth 100000
set_option maxHeartbeats 64000000
namespace Go.Proofs.YtdeimnnpcfncpaaGreatDoor.X
open Go Go.RowKit
theorem N2s (w:World) (x y:Obj):((w.alloc x).alloc y).heap.size=w.heap.size+2:=by show(Array.push (Array.push _ _) _).size=_;rw[Array.size_push,Array.size_push]
theorem N26 (w:World) (x y:Obj):((w.alloc x).alloc y).heap[w.heap.size]?=some x:=by
 rw[show((w.alloc x).alloc y).heap=(w.heap.push x).push y from rfl,Array.getElem?_push_lt (by rw[Array.size_push];omega)];rw[Array.getElem_push_eq]
theorem N27 (w:World) (x y:Obj):((w.alloc x).alloc y).heap[w.heap.size+1]?=some y:=by
 rw[show((w.alloc x).alloc y).heap=(w.heap.push x).push y from rfl,show w.heap.size+1=(w.heap.push x).size by rw[Array.size_push],Array.getElem?_push_size]
theorem qsp {v:List UInt8} (h:v∈upL):qb0 (qag,v)=0:=by
 obtain⟨_,h2,_⟩:=qiV h;unfold qb0;rw[if_pos (show qan 95 qag=true by decide),if_pos h2]
theorem qpn (qs:List (Nat×Nat)): ∀x∈mdF qs,x.1.length≤19∧x.2.length≤10:=by
 intro x hx;obtain⟨h1,h2⟩:=(qnH qs).2 x hx;have a1:=List.all_eq_true.1 qf6 _ h1;have a2:=List.all_eq_true.1 qii _ h2;simp only[decide_eq_true_eq] at a1 a2;exact⟨a1,by omega⟩
def qg0 (w:World) (e:Ending) (w':World):Prop:=
 Below w.heap.size w w'∧ ∃v s,e= .returned (.tuple #[v,.bool true])∧MdS s∧qs7 w.heap.size w' v s
def qjQ (D:Nat) (lv:Value) (b:Int) (st:Bool) (t:Int) (W:World):World:=(((W.setCell ⟨D,0,none⟩ lv).setCell ⟨D,1,none⟩ (.int .u64 b)).setCell ⟨D,2,none⟩ (.bool st)).setCell ⟨D,3,none⟩ (.int .i64 t)
theorem qqd {w W:World} {lv lv0:Value} {b0 t0 b t:Int} {st0 st:Bool} {r:List Lb} (X:SB (w.heap.size+1) lv0 b0 st0 t0 W) (own:W.ownsRow (w.heap.size+2) 44 2 lv r.length (qaa r)) (BW:Below w.heap.size w W):
 SB (w.heap.size+1) lv b st t (qjQ (w.heap.size+1) lv b st t W)∧(qjQ (w.heap.size+1) lv b st t W).ownsRow (w.heap.size+2) 44 2 lv r.length (qaa r)∧Below w.heap.size w (qjQ (w.heap.size+1) lv b st t W):=by
 refine⟨(((X.set0 lv).set1 b).set2 st).set3 t,?_,?_⟩
 ·exact qak (qak (qak (qak own (qaj _ _ 0 _) (by omega)) (qaj _ _ 1 _) (by omega)) (qaj _ _ 2 _) (by omega)) (qaj _ _ 3 _) (by omega)
 ·exact(((BW.setCell (p:=⟨w.heap.size+1,0,none⟩) (by show w.heap.size≤w.heap.size+1;omega) _).setCell (p:=⟨w.heap.size+1,1,none⟩) (by show w.heap.size≤w.heap.size+1;omega) _).setCell (p:=⟨w.heap.size+1,2,none⟩) (by show w.heap.size≤w.heap.size+1;omega) _).setCell (p:=⟨w.heap.size+1,3,none⟩) (by show w.heap.size≤w.heap.size+1;omega) _
theorem qdC {w W W':World} {lv lv0:Value} {b0 t0:Int} {st0:Bool} {s:Smp} (hs:MdS s) (X:SB (w.heap.size+1) lv0 b0 st0 t0 W) (own:W.ownsRow (w.heap.size+2) 44 2 lv s.ls.length (qaa s.ls)) (BW:Below w.heap.size w W)
 (hb:Below (qjQ (w.heap.size+1) lv s.bits s.st s.t W).heap.size (qjQ (w.heap.size+1) lv s.bits s.st s.t W) W'):
 SB (w.heap.size+1) lv s.bits s.st s.t W'∧qg0 w (.returned (.tuple #[.agg #[lv,.int .u64 (s.bits:Int),.bool s.st,.int .i64 s.t],.bool true])) W':=by
 obtain⟨h1,h2,h3⟩:=qqd (b:=s.bits) (t:=s.t) (st:=s.st) X own BW;exact⟨h1.on hb,h3.trans (hb.mono h3.size),_,s,rfl,hs,lv,rfl,qaN (qaf h2 hb) (by omega)⟩
theorem qk3:Go.Proofs.YtdeimnnpcfncpaaGreatDoor.kindN 4609434218613702656≠4:=by decide
theorem qlH (nm bits:Nat) (tm:Int) (td:Bool) (qs:List (Nat×Nat)) (a:Option Addr) (n c:Nat) (h1:nm<256) (h2:bits<18446744073709551616) (h3: -9223372036854775808≤tm) (h4:tm≤9223372036854775807) (w:World) (hr:qp9 w (.slice a n c) qs) (hn:n=qs.length) (hl:n≤9223372036854775807) (hcn:n≤c):
 Calls Tryz.prog 15 #[.agg #[.int .u8 (nm:Int),.slice a n c,.int .u64 (bits:Int),.int .i64 tm,.bool td]] w (qg0 w):=by
 have hrh:=Lh hr;have hnh:=Lh hn;clear hr hn;go_enter Tryz.func15,Tryz.ntmps15;go_wp2_with fail;refine(qiU qs _ a n c (hrh.out.on (((Below.refl _ w).alloc (Nat.le_refl _) _).alloc (by show w.heap.size≤(Array.push _ _).size;rw[Array.size_push];omega) _)) hnh.out hl hcn).mono ?_;rintro e w1 ⟨v1,rfl,own1,B1,hl40,hne⟩;obtain⟨r,hof,hright,hr16,hrl⟩:=qsn qs;have c2:=Lh (qkH v1 (mdF qs) (by omega) (fun x hx=>by have:=qpn qs x hx;omega) w1 (qaH.of_owned own1) hne);obtain⟨a1,n1,rfl⟩:=qac own1;have B1h:=Lh B1;clear own1 B1;go_wp2_with fail;refine c2.out.mono ?_;unfold qsj;rw[hof];rintro e w2 ⟨v2,rfl,own2,B2⟩;have B2h:=Lh (B1h.out.trans (B2.mono B1h.out.size));have own2h:=Lh own2;obtain⟨a2,n2,rfl⟩:=qac own2;have hs0:w.heap.size+2≤w2.heap.size:=by have:=B2h.out.size;rw[N2s] at this;exact this
 have hD0:w.heap.size<w2.heap.size:=by omega
 have hD1:w.heap.size+1<w2.heap.size:=by omega
 have m0:w2.cell? ⟨w.heap.size,0,none⟩=some (.int .u8 (nm:Int)):=(B2h.out.cell (p:=⟨w.heap.size,0,none⟩) (by rw[N2s];exact Nat.lt_succ_of_lt (Nat.lt_succ_self _))).trans (by rw[Lib.cell_of_heap (N26 w _ _)];rfl);clear own2 B2 c2 B1h hof
 have hc17:Hid (∀(ve:Value) (y:List UInt8) (W:World),y∈upL→Below w2.heap.size w2 W→qaH W ve [(qag,y)]→Calls Tryz.prog 17 #[.slice a2 r.length n2,ve] W (qk1 r [(qag,y)] W)):=Lh (by
  intro ve y W hy hb hv;obtain⟨u1,u2,u3⟩:=qiV hy
  exact qq8 (.slice a2 r.length n2) ve r [(qag,y)] hright (fun x hx=>by rw[List.mem_singleton] at hx;subst hx;exact qsp hy) (by simp;omega) (fun x hx=>by have:=hrl x hx;omega) (fun x hx=>by rw[List.mem_singleton] at hx;subst hx;exact⟨by show qag.length≤_;decide,by show y.length≤_;omega⟩) W ((qaH.of_owned own2h.out).on hb) hv)
 obtain⟨m8,hm8⟩: ∃m,Hid (nm%8=m):=⟨_,Lh rfl⟩;have l8:m8<8:=by have:=hm8.out;omega
 have e8:((nm:Int)%8)=(m8:Int):=by have:=hm8.out;omega
 have d8:decide (m8<8)=true:=dT l8;have d8':decide ((m8:Int)<8)=true:=dT (by omega);obtain⟨y,hy⟩: ∃y,upL.getD m8 []=y:=⟨_,rfl⟩;have hyu:Hid (y∈upL):=Lh (by rw[←hy];exact qe5 l8)
 have yN:(w2.alloc (.cells #[.string ⟨#[117,112]⟩,.string ⟨#[97]⟩,.string ⟨#[104,116,116,112,95,116,111,116,97,108]⟩,.string ⟨#[97,58,98]⟩,.string ⟨#[120]⟩,.string ⟨#[108,101]⟩,.string ⟨#[95]⟩,.string ⟨#[122,57]⟩] 9)).cell? ⟨w2.heap.size,m8,none⟩=some (.string (BS y)):=by
  rw[Lib.cell_of_heap (World.alloc_heap_new _ _),←hy];rcases(show m8=0∨m8=1∨m8=2∨m8=3∨m8=4∨m8=5∨m8=6∨m8=7 by omega)with rfl|rfl|rfl|rfl|rfl|rfl|rfl|rfl<;>rfl
 clear hy;have X0:Hid (w2.heap[w.heap.size]?=some (.cells #[.int .u8 (nm:Int),.slice a n c,.int .u64 (bits:Int),.int .i64 tm,.bool td] 26 (0,0))):=Lh ((B2h.out.block _ (by rw[N2s];omega)).trans (N26 w _ _));have X1:Hid (SB (w.heap.size+1) (.slice none 0 0) 0 false 0 w2):=Lh ((B2h.out.block _ (by rw[N2s];omega)).trans (N27 w _ _));have BW:Hid (Below w.heap.size w w2):=Lh ((((Below.refl _ w).alloc (Nat.le_refl _) _).alloc (by show w.heap.size≤(Array.push _ _).size;rw[Array.size_push];omega) _).trans (B2h.out.mono (by rw[N2s];omega)));go_wp2_with fail;have R1:=qaH.of_owned (row_one (w2.alloc (.cells #[.string ⟨#[117,112]⟩,.string ⟨#[97]⟩,.string ⟨#[104,116,116,112,95,116,111,116,97,108]⟩,.string ⟨#[97,58,98]⟩,.string ⟨#[120]⟩,.string ⟨#[108,101]⟩,.string ⟨#[95]⟩,.string ⟨#[122,57]⟩] 9)) y);rw[World.size_alloc] at R1;have Ba:Below w2.heap.size w2 ((w2.alloc (.cells #[.string ⟨#[117,112]⟩,.string ⟨#[97]⟩,.string ⟨#[104,116,116,112,95,116,111,116,97,108]⟩,.string ⟨#[97,58,98]⟩,.string ⟨#[120]⟩,.string ⟨#[108,101]⟩,.string ⟨#[95]⟩,.string ⟨#[122,57]⟩] 9)).alloc (.cells #[.string (BS qag),.string (BS y)] 44)):=((Below.refl _ _).alloc (Nat.le_refl _) _).alloc (by rw[World.size_alloc];omega) _;refine(hc17.out _ y _ hyu.out Ba R1).mono ?_;rintro e w4 ⟨v4,r2,rfl,own4,B4,hset⟩;have B5:Below w2.heap.size w2 w4:=Ba.trans (B4.mono Ba.size);obtain⟨a4,n4,rfl⟩:=qac own4;replace X0:=Lh ((B5.block _ hD0).trans X0.out);replace X1:=Lh (X1.out.on B5);replace BW:=Lh (BW.out.trans (B5.mono BW.out.size));have O4:=Lh (qaN own4 (show w.heap.size+2≤_ by have:=Ba.size;omega));have hseth:=Lh hset;have hD0':w.heap.size<w4.heap.size:=Nat.lt_of_lt_of_le hD0 B5.size;have hD1':w.heap.size+1<w4.heap.size:=Nat.lt_of_lt_of_le hD1 B5.size;clear own4 B4 hset Ba R1 B5 yN hc17 own2h B2h m0 hne hs0 hD0 hD1 e8 d8 d8' l8 hm8;have m2:w4.cell? ⟨w.heap.size,2,none⟩=some (.int .u64 (bits:Int)):=by rw[Lib.cell_of_heap X0.out];rfl
 have m3:w4.cell? ⟨w.heap.size,3,none⟩=some (.int .i64 tm):=by rw[Lib.cell_of_heap X0.out];rfl
 have m4:w4.cell? ⟨w.heap.size,4,none⟩=some (.bool td):=by rw[Lib.cell_of_heap X0.out];rfl
 have f1:=X1.out.c0;have f2:=X1.out.c1;have f3:=X1.out.c2;have f4:=X1.out.c3;have z0:=X1.out.fz 0;have z1:=X1.out.fz 1;have z2:=X1.out.fz 2;have z3:=X1.out.fz 3;have hk:=Lh (fun W=>qfA bits h2 W);obtain⟨kn,hkn⟩: ∃kn,Hid (Go.Proofs.YtdeimnnpcfncpaaGreatDoor.kindN bits=kn):=⟨_,Lh rfl⟩;rw[hkn.out] at hk;go_wp2_with fail;refine(hk.out _).mono ?_;rintro e w5 ⟨rfl,rfl⟩
 by_cases hnan:kn=4
 ·have t1:((kn:Int)==4)=true:=by simp[hnan]
  cases td with
  |true=>
   obtain⟨p1,p2,p3⟩:=qiV hyu.out;have hs:=qmQ (bits:=4609434218613702656) (st:=true) (t:=tm) hright hr16 (fun x hx=>(hrl x hx).2) p1 p2 p3 hseth.out (by decide) qk3 (.inl rfl) h3 h4;have FE:=fun W' hb=>qdC (W':=W') hs X1.out O4.out BW.out hb
   replace FE:=Lh FE;clear hs p1 p2 p3;go_upto_region 9 with (fail)
   go_region;go_wp2_with fail;have FF:=Lh (FE.out _ (((Below.refl _ _).alloc (Nat.le_refl _) (.cells #[.slice a4 r2.length n4,.int .u64 ((4609434218613702656:Nat):Int),.bool true,.int .i64 tm] 34)).drew));refine bodyPost_ret (qaq rfl _ _ _ _ _ _ _ rfl FF.out.1) rfl ?_;exact FF.out.2
  |false=>
   obtain⟨p1,p2,p3⟩:=qiV hyu.out;have hs:=qmQ (bits:=4609434218613702656) (st:=false) (t:=0) hright hr16 (fun x hx=>(hrl x hx).2) p1 p2 p3 hseth.out (by decide) qk3 (.inr rfl) (by decide) (by decide);have FE:=fun W' hb=>qdC (W':=W') hs X1.out O4.out BW.out hb
   replace FE:=Lh FE;clear hs p1 p2 p3;go_wp2_with fail;have FF:=Lh (FE.out _ (((Below.refl _ _).alloc (Nat.le_refl _) (.cells #[.slice a4 r2.length n4,.int .u64 ((4609434218613702656:Nat):Int),.bool false,.int .i64 0] 34))));refine bodyPost_ret (qaq rfl _ _ _ _ _ _ _ rfl FF.out.1) rfl ?_;exact FF.out.2
 ·have t1:((kn:Int)==4)=false:=by simp;omega
  cases td with
  |true=>
   obtain⟨p1,p2,p3⟩:=qiV hyu.out;have hs:=qmQ (bits:=bits) (st:=true) (t:=tm) hright hr16 (fun x hx=>(hrl x hx).2) p1 p2 p3 hseth.out h2 (by rw[hkn.out];exact hnan) (.inl rfl) h3 h4;have FE:=fun W' hb=>qdC (W':=W') hs X1.out O4.out BW.out hb
   replace FE:=Lh FE;clear hs p1 p2 p3;go_upto_region 9 with (fail)
   go_region;go_wp2_with fail;have FF:=Lh (FE.out _ (((Below.refl _ _).alloc (Nat.le_refl _) (.cells #[.slice a4 r2.length n4,.int .u64 ((bits:Nat):Int),.bool true,.int .i64 tm] 34)).drew));refine bodyPost_ret (qaq rfl _ _ _ _ _ _ _ rfl FF.out.1) rfl ?_;exact FF.out.2
  |false=>
   obtain⟨p1,p2,p3⟩:=qiV hyu.out;have hs:=qmQ (bits:=bits) (st:=false) (t:=0) hright hr16 (fun x hx=>(hrl x hx).2) p1 p2 p3 hseth.out h2 (by rw[hkn.out];exact hnan) (.inr rfl) (by decide) (by decide);have FE:=fun W' hb=>qdC (W':=W') hs X1.out O4.out BW.out hb
   replace FE:=Lh FE;clear hs p1 p2 p3;go_wp2_with fail;have FF:=Lh (FE.out _ (((Below.refl _ _).alloc (Nat.le_refl _) (.cells #[.slice a4 r2.length n4,.int .u64 ((bits:Nat):Int),.bool false,.int .i64 0] 34))));refine bodyPost_ret (qaq rfl _ _ _ _ _ _ _ rfl FF.out.1) rfl ?_;exact FF.out.2
structure Sm where
 nm:Nat
 bits:Nat
 tm:Int
 td:Bool
 qs:List (Nat×Nat)
def sm0:Sm:=⟨0,0,0,false,[]⟩
structure qqZ (x:Sm):Prop where
 h1:x.nm<256
 h2:x.bits<18446744073709551616
 h3: -9223372036854775808≤x.tm
 h4:x.tm≤9223372036854775807
def SmV (W:World) (lv:Value) (x:Sm):Prop:= ∃a c,lv= .slice a x.qs.length c∧qp9 W (.slice a x.qs.length c) x.qs∧x.qs.length≤c∧x.qs.length≤9223372036854775807
theorem SmV.on {w W:World} {lv:Value} {x:Sm} (h:SmV w lv x) (hb:Below w.heap.size w W):SmV W lv x:=by
 obtain⟨a,c,h1,h2,h3,h4⟩:=h;exact⟨a,c,h1,h2.on hb,h3,h4⟩
def qjA (W:World) (b o:Nat) (lv:Value) (x:Sm):Prop:=
 W.cell? ⟨b,o,none⟩=some (.int .u8 (x.nm:Int))∧W.cell? ⟨b,o+1,none⟩=some lv∧W.cell? ⟨b,o+2,none⟩=some (.int .u64 (x.bits:Int))∧W.cell? ⟨b,o+3,none⟩=some (.int .i64 x.tm)∧W.cell? ⟨b,o+4,none⟩=some (.bool x.td)
def SmRow (W:World) (v:Value) (xs:List Sm):Prop:=
 (∃a c,v= .slice a 0 c∧xs=[])∨
 ∃b off cap,v= .slice (some ⟨b,off,none⟩) xs.length cap∧b<W.heap.size∧xs.length≤cap∧cap≤maxLen∧
  ∀i,i<xs.length→qqZ (xs.getD i sm0)∧ ∃lv,qjA W b (off+i*5) lv (xs.getD i sm0)∧SmV W lv (xs.getD i sm0)
theorem SmRow.on {w W:World} {v:Value} {xs:List Sm} (h:SmRow w v xs) (hb:Below w.heap.size w W):SmRow W v xs:=by
 rcases h with h|⟨b,off,cap,h1,h2,h3,h4,h5⟩
 ·exact .inl h
 ·refine .inr ⟨b,off,cap,h1,Nat.lt_of_lt_of_le h2 hb.size,h3,h4,fun i hi=>?_⟩;obtain⟨k0,lv,⟨k1,k2,k3,k4,k5⟩,k6⟩:=h5 i hi;have k:=fun o=>hb.cell (p:=⟨b,o,none⟩) h2
  exact⟨k0,lv,⟨(k _).trans k1,(k _).trans k2,(k _).trans k3,(k _).trans k4,(k _).trans k5⟩,k6.on hb⟩
theorem qoE (x:Sm) (hx:qqZ x) (lv:Value) (w:World) (h:SmV w lv x):Calls Tryz.prog 15 #[.agg #[.int .u8 (x.nm:Int),lv,.int .u64 (x.bits:Int),.int .i64 x.tm,.bool x.td]] w (qg0 w):=by
 obtain⟨a,c,rfl,h2,h3,h4⟩:=h;exact qlH x.nm x.bits x.tm x.td x.qs a _ c hx.h1 hx.h2 hx.h3 hx.h4 w h2 rfl h4 h3
def qol (w:World) (e:Ending) (w':World):Prop:=
 Below w.heap.size w w'∧ ∃v ss,e= .returned (.tuple #[v,.bool true])∧qqC w.heap.size w' v ss∧(∀s∈ss,MdS s)∧ss.length≤12
theorem qlJ {w W W':World} {v v2 lv:Value} {ps:List SV} {s:Smp} (h2:W.ownsRow w.heap.size 34 4 v ps.length (qaT ps)) (h3: ∀p∈ps,W.ownsRow w.heap.size 44 2 p.2 p.1.ls.length (qaa p.1.ls)) (ho:W.ownsRow w.heap.size 44 2 lv s.ls.length (qaa s.ls))
 (hown:W'.ownsRow w.heap.size 34 4 v2 (ps.length+1) (qaT ps++qoW (s,lv))) (hk: ∀row,v.ownBlock≠some row→row<W.heap.size→W'.heap[row]?=W.heap[row]?):
 W'.ownsRow w.heap.size 34 4 v2 (ps++[(s,lv)]).length (qaT (ps++[(s,lv)]))∧ ∀p∈ps++[(s,lv)],W'.ownsRow w.heap.size 44 2 p.2 p.1.ls.length (qaa p.1.ls):=by
 refine⟨?_,fun p hp=>?_⟩
 ·rw[List.length_append,qeG];simpa [qaT] using hown
 ·rcases List.mem_append.1 hp with hp|hp
  ·exact qaw (h3 p hp) h2 (by decide) hk
  ·rw[List.mem_singleton] at hp;subst hp;exact qaw ho h2 (by decide) hk
theorem qrp (a:Option Addr) (c:Nat) (xs:List Sm) (w:World) (hr:SmRow w (.slice a xs.length c) xs) (hlc:xs.length≤c) (hlm:xs.length≤maxLen):
 Calls Tryz.prog 14 #[.slice a xs.length c] w (qol w):=by
 have hrh:=Lh hr;obtain⟨n,hn⟩: ∃n,n=xs.length:=⟨_,rfl⟩;have hnh:=Lh hn;rw[←hn] at hlc hlm⊢;clear hn hr;obtain⟨k,hk⟩: ∃k:Nat,k=min n 12:=⟨_,rfl⟩;have hkm:min (n:Int) 12=(k:Int):=by omega
 have hkn:k≤n:=by omega
 have hk12:k≤12:=by omega
 have hkc:decide (k≤c)=true:=dT (by omega);go_enter Tryz.func14,Tryz.ntmps14;clear hk;go_wp2_with fail;go_loopg [4,15] (k+1) (fun gk s4 s15 wx=> ∃(i:Nat) (ps:List SV),i≤k∧k - i<gk∧s15= .int .i64 (i:Int)∧ps.length=i∧Hid (wx.ownsRow w.heap.size 34 4 s4 ps.length (qaT ps))∧Hid (∀p∈ps,wx.ownsRow w.heap.size 44 2 p.2 p.1.ls.length (qaa p.1.ls))∧Hid (∀p∈ps,MdS p.1)∧Hid (Below w.heap.size w wx))
 case atStart=>exact⟨0,[],by omega,by omega,by go_num,rfl,Lh ⟨rfl,.inl ⟨rfl,rfl⟩⟩,Lh (fun p hp=>by cases hp),Lh (fun p hp=>by cases hp),Lh (Below.refl _ _)⟩
 case round=>
  obtain⟨i,ps,hi,hgk,rfl,hpl,O,OL,M,B⟩:=hrel
  by_cases hlt:i<k
  ·have hil:i<xs.length:=by rw[←hnh.out];omega
   obtain⟨x,hx⟩: ∃x,Hid (x=xs.getD i sm0):=⟨_,Lh rfl⟩
   obtain⟨b,off,rfl,hok,lv,⟨y1,y2,y3,y4,y5⟩,hsv⟩: ∃b off,a=some ⟨b,off,none⟩∧qqZ x∧ ∃lv,qjA wr b (off+i*5) lv x∧SmV wr lv x:=by
    rcases hrh.out.on B.out with ⟨_,_,h1,h2⟩|⟨b,off,cap,h1,h2,h3,h4,h5⟩
    ·rw[h2] at hil;simp at hil
    ·injection h1 with h6 _ _
     rw[hx.out];exact⟨b,off,h6,h5 i hil⟩
   have u2:decide ((i:Int)<(k:Int))=true:=dT (by omega);have u3:decide (i<k)=true:=dT hlt
   obtain⟨la,lc,rfl,hsv2⟩: ∃la lc,lv= .slice la x.qs.length lc∧SmV wr lv x:=by
    obtain⟨a,c,h1,h2⟩:=hsv;exact⟨a,c,h1,a,c,h1,h2⟩
   have Bx: ∀ob,Hid (Below wr.heap.size wr (wr.alloc ob)):=fun ob=>Lh ((Below.refl _ _).alloc (Nat.le_refl _) ob)
   have hcm:=Lh (fun W (hb:Below wr.heap.size wr W)=>qoE x hok _ W (hsv2.on hb));obtain⟨nm,bits,tm,td,qs⟩:=x;simp only at y1 y2 y3 y4 y5 hcm;clear hsv hsv2 hok hx;go_wp2_with fail;refine(hcm.out _ (Bx _).out).mono ?_;rintro e w2 ⟨B2,v,s,rfl,hmd,sv,rfl,hown⟩;obtain⟨a2,c2,rfl⟩:=qac hown;have Bw:=(Bx (.cells #[.int .u8 (nm:Int),.slice la qs.length lc,.int .u64 (bits:Int),.int .i64 tm,.bool td] 26)).out;have Bz:=Bw.trans (B2.mono Bw.size);have O2:=qaf O.out Bz;have OL2:=fun p hp=>qaf (OL.out p hp) Bz
   have B3:=B.out.trans (Bz.mono B.out.size);have hown2:=qaN hown (show w.heap.size≤_ from Nat.le_trans B.out.size Bw.size);have By:Below w2.heap.size w2 (w2.alloc (.cells #[.slice a2 s.ls.length c2,.int .u64 (s.bits:Int),.bool s.st,.int .i64 s.t] 34)):=(Below.refl _ _).alloc (Nat.le_refl _) _;have N7:SB w2.heap.size (.slice a2 s.ls.length c2) (s.bits:Int) s.st s.t (w2.alloc (.cells #[.slice a2 s.ls.length c2,.int .u64 (s.bits:Int),.bool s.st,.int .i64 s.t] 34)):=World.alloc_heap_new w2 _;replace O2:=Lh (qaf O2 By);replace OL2:=Lh (fun p hp=>qaf (OL2 p hp) By);replace B3:=Lh (B3.trans (By.mono B3.size));replace hown2:=Lh (qaf hown2 By)
   replace M:=Lh (show∀p∈ps++[(s,(.slice a2 s.ls.length c2:Value))],MdS p.1 from fun p hp=>by
    rcases List.mem_append.1 hp with hp|hp
    ·exact M.out p hp
    ·rw[List.mem_singleton] at hp;subst hp;exact hmd)
   clear hown Bw Bz B2 hcm Bx O OL B hmd By y1 y2 y3 y4 y5;have c0:=N7.c0;have c1:=N7.c1;have c2':=N7.c2;have c3:=N7.c3;have hsz:=B3.out.size;go_upto_region 6 with (fail)
   generalize w2.alloc (.cells #[.slice a2 s.ls.length c2,.int .u64 (s.bits:Int),.bool s.st,.int .i64 s.t] 34)=w3 at*;generalize w2.heap.size=D3 at*;clear N7;go_wp2_with (at_builtin;go_must (refine qfO rfl (.tmp 26) (.tmp 28) 28 rfl 4 #[.slice a2 s.ls.length c2,.int .u64 (s.bits:Int),.bool s.st,.int .i64 s.t] rfl (by decide) w.heap.size (.agg #[.slice none 0 0,.int .u64 0,.bool false,.int .i64 0]) 48 (by kernel_rfl) qho rfl _ ps.length (qaT ps) rfl rfl O2.out (by intro u hu;simp at hu;rcases hu with rfl|rfl|rfl|rfl<;>rfl) (by decide) (by omega) hsz ?_);rintro v2 w6 hown3 hb6 hs6 hk6 _;have O6:=Lh (qlJ (lv:= .slice a2 s.ls.length c2) (s:=s) O2.out OL2.out hown2.out hown3 hk6);have B6:=Lh (B3.out.trans hb6);clear hown3 hb6 hs6 hk6 O2 OL2 hown2 B3 hsz);go_roundg (gk - 1)
   case measure=>omega
   case rel=>exact⟨i+1,_,by omega,by omega,by go_num,by rw[List.length_append,hpl];rfl,Lh O6.out.1,Lh O6.out.2,M,B6⟩
  ·obtain rfl:i=k:=by omega
   have u2:decide ((i:Int)<(i:Int))=false:=dF (by omega);have R:=Lh (show qol w (.returned (.tuple #[u4,.bool true])) wr from⟨B.out,u4,ps.map Prod.fst,rfl,⟨ps,rfl,O.out,OL.out⟩,fun s hs=>by obtain⟨p,hp,rfl⟩:=List.mem_map.1 hs;exact M.out p hp,by rw[List.length_map];omega⟩);clear B O OL M;go_wp2_with fail;go_ret2;exact R.out
theorem qmY (s:Smp):qam s≠[]:=by
 intro h;have:=congrArg List.length h;unfold qam at this;simp at this
theorem qfp {ss:List Smp} (h: ∀s∈ss,SOk s):L.linesL (Lib.trimSuffix (qa7 (ss.map qam)) [10])=ss.map qam:=by
 rcases List.eq_nil_or_concat ss with rfl|⟨t,s,rfl⟩
 ·show L.linesL (Lib.trimSuffix [] [10])=[];rw[show Lib.trimSuffix [] [10]=[] by rfl];exact L.linesL_nil
 ·have e:qa7 ((t.concat s).map qam)=(qa7 (t.map qam)++qam s)++[10]:=by
   rw[List.concat_eq_append,List.map_append,qk0];simp[qa7]
  have hs:Lib.hasSuffix ((qa7 (t.map qam)++qam s)++[10]) [10]=true:=by
   unfold Lib.hasSuffix;simp[List.isSuffixOf]
  have e2:Lib.trimSuffix ((qa7 (t.map qam)++qam s)++[10]) [10]=qa7 (t.map qam)++qam s:=by
   unfold Lib.trimSuffix;rw[if_pos hs,List.length_append (bs:=[10]),Nat.add_sub_cancel,List.take_left]
  rw[e,e2,qiC]
  ·rw[List.concat_eq_append,List.map_append];rfl
  ·intro l hl;exact SOk.lines h l (by rw[List.concat_eq_append,List.map_append];exact List.mem_append.2 (.inl hl))
  ·intro c hc;exact SOk.lines h (qam s) (by rw[List.concat_eq_append,List.map_append];exact List.mem_append.2 (.inr (by simp))) c hc
  ·exact qmY s
theorem qeq {ss:List Smp} (h: ∀s∈ss,SOk s) (hn:ss.length≤12):qaP 0 (ss.map qam) qeW=(0,0,⟨ss,[],[]⟩):=by
 rw[qdU ss 0 qeW h (by show 0+_≤_;omega)];simp[qeW]
theorem qip {ss:List Smp} (h: ∀s∈ss,SOk s): ∀y∈ss.map qam,qpe (qdo y):=by
 intro y hy;obtain⟨s,hs,rfl⟩:=List.mem_map.1 hy;have ho:=h s hs;rw[qeS s ho.b ho.r];exact qeL _ ho.b (qaF ho.r).2.2.1
theorem qlB (T:List UInt8):(Lib.trimSuffix T [10]).length≤T.length:=by
 unfold Lib.trimSuffix
 split
 ·rw[List.length_take];omega
 ·exact Nat.le_refl _
theorem qfG (l:List UInt8) (hl:l.length≤65536) (ss:List Smp) (h: ∀s∈ss,SOk s) (hn:ss.length≤12) (hL:L.linesL l=ss.map qam) (W:World) (hG:EGlb W):Calls Tryz.prog 32 #[.string (BS l)] W fun r w'=>
 (∃sv a2 c2 a3 c3,r= .returned (.tuple #[.agg #[sv,.slice a2 0 c2,.slice a3 0 c3],.int .i64 0,.int .i64 0])∧qqC W.heap.size w' sv ss)∧Below W.heap.size W w':=by
 have hP:qaP 0 (L.linesL l) qeW=(0,0,⟨ss,[],[]⟩):=by rw[hL];exact qeq h hn
 refine(callsIn_wide.1 (qhP l hl (fun y hy=>qip h y (by rw[←hL];exact hy)) W hG 0 0 _ hP)).mono ?_;rintro r w' ⟨⟨sv,tv,hv,rfl,⟨q1,q4,q5⟩⟩,hb⟩;obtain⟨a2,c2,rfl⟩:=qac q4;obtain⟨a3,c3,rfl⟩:=qac q5;exact⟨⟨_,_,_,_,_,rfl,q1⟩,hb⟩
theorem qbn.of_own {base:Nat} {W:World} {v:Value} {ss:List Smp} (h:qqC base W v ss):qbn W v ss:=by
 obtain⟨ps,rfl,h2,h3⟩:=h;rcases h2.2 with ⟨h4,h5⟩|⟨g,cap,cur,h4,h5,h6,h7,h8,h9,h10⟩
 ·have:ps=[]:=List.eq_nil_of_length_eq_zero h5;subst this;exact .inl ⟨none,0,fun _=>rfl,h4,rfl⟩
 ·refine .inr ⟨g,0,cap,by rw[h4,List.length_map],(Array.getElem?_eq_some_iff.1 h6).1,by rw[List.length_map];exact h7,h8,fun i hi=>?_⟩;rw[List.length_map] at hi
  have hc: ∀j,j<ps.length*4→W.cell? ⟨g,j,none⟩=(qaT ps)[j]?:=fun j hj=>by
   rw[Lib.cell_of_heap h6,←h10,List.getElem?_take_of_lt hj];simp
  have hs: ∀(ps:List SV) (i:Nat),i<ps.length→(qaT ps)[i*4]?=(ps[i]?).map (fun p=>p.2)∧(qaT ps)[i*4+1]?=(ps[i]?).map (fun p=>Value.int .u64 (p.1.bits:Int))∧(qaT ps)[i*4+2]?=(ps[i]?).map (fun p=>Value.bool p.1.st)∧(qaT ps)[i*4+3]?=(ps[i]?).map (fun p=>Value.int .i64 p.1.t):=by
   intro ps
   induction ps with
   |nil=>intro i hi;simp at hi
   |cons p t ih=>
    intro i hi
    cases i with
    |zero=>exact⟨rfl,rfl,rfl,rfl⟩
    |succ i=>
     have:=ih i (by simpa using hi);rw[show(i+1)*4=i*4+4 by omega];exact this
  obtain⟨k0,k1,k2,k3⟩:=hs ps i hi
  have e:(ps.map Prod.fst).getD i qa6=(ps[i]).1:=by
   rw[List.getD_eq_getElem?_getD,List.getElem?_map,List.getElem?_eq_getElem hi];rfl
  rw[List.getElem?_eq_getElem hi] at k0 k1 k2 k3;refine⟨(ps[i]).2,⟨?_,?_,?_,?_⟩,?_⟩
  ·rw[Nat.zero_add,hc _ (by omega)];exact k0
  ·rw[Nat.zero_add,hc _ (by omega),e];exact k1
  ·rw[Nat.zero_add,hc _ (by omega),e];exact k2
  ·rw[Nat.zero_add,hc _ (by omega),e];exact k3
  ·rw[e];exact qaH.of_owned (h3 _ (List.getElem_mem _))
theorem SOk.sbt {s:Smp} (h:MdS s):SBt s:=⟨⟨by have:=h.n;omega,fun x hx=>by have:=h.v x hx;omega,h.ok.b⟩,h.ok.t0,h.ok.t1⟩
def qel (W:World) (v:Value) (ts:List (List UInt8)):Prop:=(∃a c,v= .slice a 0 c∧ts=[])∨ ∃g c,v= .slice (some ⟨g,0,none⟩) ts.length c∧g<W.heap.size∧ts.length≤c∧ ∀j,j<ts.length→W.cell? ⟨g,j,none⟩=some (.string (BS (ts.getD j [])))
theorem qel.on {w W:World} {v:Value} {ts:List (List UInt8)} (h:qel w v ts) (hb:Below w.heap.size w W):qel W v ts:=by
 rcases h with h|⟨g,c,h1,h2,h3,h4⟩
 ·exact .inl h
 ·exact .inr ⟨g,c,h1,Nat.lt_of_lt_of_le h2 hb.size,h3,fun j hj=>(hb.cell (p:=⟨g,j,none⟩) h2).trans (h4 j hj)⟩
theorem qel.of_own {W:World} {base:Nat} {v:Value} {ts:List (List UInt8)} (h:W.ownsRow base 9 1 v ts.length (qa4 ts)):qel W v ts:=by
 rcases h.2 with ⟨h1,h2⟩|⟨g,cap,cur,h1,h2,h3,h4,h5,h6,h7⟩
 ·exact .inl ⟨none,0,h1,List.eq_nil_of_length_eq_zero h2⟩
 ·refine .inr ⟨g,cap,h1,(Array.getElem?_eq_some_iff.1 h3).1,h4,fun j hj=>?_⟩;have h8:=qki (base:=base) (g:=g) (cap:=cap) (by rw[←h1];exact h);have:=h8.2.2 j (BS (ts.getD j [])) (by rw[List.getElem?_map,List.getElem?_eq_getElem hj,List.getD_eq_getElem?_getD,List.getElem?_eq_getElem hj];rfl);rwa[Nat.zero_add] at this
theorem qel.shape {W:World} {v:Value} {ts:List (List UInt8)} (h:qel W v ts): ∃a c,v= .slice a ts.length c:=by
 rcases h with ⟨a,c,h1,h2⟩|⟨g,c,h1,_⟩
 ·exact⟨a,c,by rw[h1,h2];rfl⟩
 ·exact⟨_,_,h1⟩
theorem qel.at' {W:World} {a:Option Addr} {n c:Nat} {ts:List (List UInt8)} (h:qel W (.slice a n c) ts) (j:Nat) (hj:j<ts.length): ∃g,a=some ⟨g,0,none⟩∧W.cell? ⟨g,j,none⟩=some (.string (BS (ts.getD j []))):=by
 rcases h with ⟨_,_,h1,h2⟩|⟨g,c',h1,h2,h3,h4⟩
 ·rw[h2] at hj;simp at hj
 ·obtain⟨rfl,_,_⟩:=(Value.slice.injEq ..).mp h1;exact⟨g,rfl,h4 j hj⟩
theorem expoBack_any (a:Option Addr) (c:Nat) (xs:List Sm) (w:World) (hr:SmRow w (.slice a xs.length c) xs) (hlc:xs.length≤c) (hlm:xs.length≤maxLen) (hG:EGlb w):
 Calls Tryz.prog 9 #[.slice a xs.length c] w fun e w'=>e= .returned (.bool true)∧Below w.heap.size w w':=by
 have GG:=Lh (fun W (hb:Below w.heap.size w W)=>hG.on hb);have hA:=Lh (qlf w hG);have hall:=Lh (fun W (hb:Below w.heap.size w W)=>qrp a c xs W (hr.on hb) hlc hlm);obtain⟨n,hn⟩: ∃n,n=xs.length:=⟨_,rfl⟩;rw[←hn] at hall hlc hlm⊢;clear hr hn hG;go_enter Tryz.func9,Tryz.ntmps9;go_wp2_with fail;refine hA.out.mono ?_;rintro e w1 ⟨rfl,B1⟩;replace B1:=Lh B1;clear hA;go_wp2_with fail;refine(hall.out _ B1.out).mono ?_;rintro e w2 ⟨Bx,v,ss,rfl,hrow,hmd,hlen⟩;have B2:=Lh (B1.out.trans (Bx.mono B1.out.size));have hSL:=Lh (qbn.of_own hrow);have hok:Hid (∀s∈ss,SOk s):=Lh (fun s hs=>(hmd s hs).ok);have hbt:Hid (∀s∈ss,SBt s):=Lh (fun s hs=>SOk.sbt (hmd s hs));obtain⟨av,cv,rfl⟩:=hSL.out.shape;clear Bx hall B1 hrow hmd;have hwr:=qji hok.out hlen;obtain⟨T,hT⟩: ∃T,qa7 (ss.map qam)=T:=⟨_,rfl⟩;have hTl:=SOk.feed hok.out hlen;have hlt:=qfp hok.out;have hll:=qeO (ss.map qam) (SOk.lines hok.out);rw[hT] at hwr hTl hlt hll;have hlth:=Lh hlt;have hllh:=Lh hll;have cw:=qmF _ ss (by omega) hbt.out w2 (GG.out _ B2.out) hSL.out;unfold qqr at cw;rw[hwr] at cw;replace cw:=Lh cw;clear hwr hT hlt hll;go_wp2_with fail;refine cw.out.mono ?_;rintro e w3 ⟨rfl,Bx⟩;have B3:=Lh (B2.out.trans (Bx.mono B2.out.size));replace hSL:=Lh (hSL.out.on Bx);clear Bx cw B2;have cp:=Lh (qfG T (by omega) ss hok.out hlen hllh.out w3 (GG.out _ B3.out));go_wp2_with fail;refine cp.out.mono ?_;rintro e w4 ⟨⟨sv,a2,c2,a3,c3,rfl,hsv⟩,Bx⟩;have hS4:=qbn.of_own hsv;obtain⟨a1,c1,rfl⟩:=hS4.shape;have By:Below w4.heap.size w4 (w4.alloc (.cells #[.slice a1 ss.length c1,.slice a2 0 c2,.slice a3 0 c3] 66)):=(Below.refl _ _).alloc (Nat.le_refl _) _;have Bz:=Bx.trans (By.mono Bx.size);have G4:Bd3 w4.heap.size (.slice a1 ss.length c1) (.slice a2 0 c2) (.slice a3 0 c3) (w4.alloc (.cells #[.slice a1 ss.length c1,.slice a2 0 c2,.slice a3 0 c3] 66)):=World.alloc_heap_new w4 _;replace hS4:=Lh (hS4.on By);replace hSL:=Lh (hSL.out.on Bz);have B4:=Lh (B3.out.trans (Bz.mono B3.out.size));clear hsv Bx By Bz cp B3;have hzT:(BS T).size≤65536:=by rw[qad];omega
 go_upto_region 6 with (fail)
 generalize w4.alloc (.cells #[.slice a1 ss.length c1,.slice a2 0 c2,.slice a3 0 c3] 66)=w5 at*;generalize w4.heap.size=D4 at*;have ct:=Tryz.strings_TrimSuffix (BS T) ⟨#[10]⟩ w5 (by omega);rw[show(BS T).data.toList=T by simp[BS],show(⟨#[10]⟩:ByteArray).data.toList=[10] from rfl] at ct;have hTr:=qlB T;obtain⟨U,hU⟩: ∃U,Lib.trimSuffix T [10]=U:=⟨_,rfl⟩;rw[hU] at ct hlth hTr;replace ct:=Lh ct;clear hU;have cp:=Lh (qfG U (by omega) ss hok.out hlen hlth.out w5 (GG.out _ B4.out));go_wp2_with fail;refine ct.out.mono ?_;rintro e w6 ⟨rfl,rfl⟩;clear ct;go_wp2_with fail;refine cp.out.mono ?_;rintro e w7 ⟨⟨sv,a5,c5,a6,c6,rfl,hsv⟩,Bx⟩;have hS7:=qbn.of_own hsv;obtain⟨a7,c7,rfl⟩:=hS7.shape;have By:Below w7.heap.size w7 (w7.alloc (.cells #[.slice a7 ss.length c7,.slice a5 0 c5,.slice a6 0 c6] 66)):=(Below.refl _ _).alloc (Nat.le_refl _) _;have Bz:=Bx.trans (By.mono Bx.size);have G7:Bd3 w7.heap.size (.slice a7 ss.length c7) (.slice a5 0 c5) (.slice a6 0 c6) (w7.alloc (.cells #[.slice a7 ss.length c7,.slice a5 0 c5,.slice a6 0 c6] 66)):=World.alloc_heap_new w7 _;replace hS7:=Lh (hS7.on By);replace hS4:=Lh (hS4.out.on Bz);replace hSL:=Lh (hSL.out.on Bz);replace G4:Bd3 D4 (.slice a1 ss.length c1) (.slice a2 0 c2) (.slice a3 0 c3) (w7.alloc (.cells #[.slice a7 ss.length c7,.slice a5 0 c5,.slice a6 0 c6] 66)):=(Bz.block D4 G4.lt).trans G4;have B7:=Lh (B4.out.trans (Bz.mono B4.out.size));clear hsv Bx By Bz cp B4;go_upto_region 7 with (fail)
 generalize w7.alloc (.cells #[.slice a7 ss.length c7,.slice a5 0 c5,.slice a6 0 c6] 66)=w8 at*;generalize w7.heap.size=D7 at*;have cl:=Lh (qmA T (by omega) w8 (GG.out _ B7.out));replace G4:=Lh G4;replace G7:=Lh G7;go_wp2_with fail;refine cl.out.mono ?_;rintro e w9 ⟨⟨lv,rfl,hlv⟩,Bx⟩;rw[hllh.out] at hlv;have hLn:=qel.of_own hlv;obtain⟨al,cl',rfl⟩:=hLn.shape;rw[List.length_map] at hLn⊢;have hLnh:=Lh hLn;replace hSL:=Lh (hSL.out.on Bx);replace hS4:=Lh (hS4.out.on Bx);replace hS7:=Lh (hS7.out.on Bx);have g4:=Lh (fun W (hb:Below w9.heap.size w9 W)=>(show Bd3 D4 (.slice a1 ss.length c1) (.slice a2 0 c2) (.slice a3 0 c3) W from((Bx.trans (hb.mono Bx.size)).block D4 G4.out.lt).trans G4.out));have g7:=Lh (fun W (hb:Below w9.heap.size w9 W)=>(show Bd3 D7 (.slice a7 ss.length c7) (.slice a5 0 c5) (.slice a6 0 c6) W from((Bx.trans (hb.mono Bx.size)).block D7 G7.out.lt).trans G7.out));have B9:=Lh (B7.out.trans (Bx.mono B7.out.size));clear hLn hlv Bx cl B7 G4 G7;have hq: ∀s∈ss,s.ls.length≤1000000000:=fun s hs=>by have:=(hbt.out s hs).1.n;omega
 have cs:=Lh (fun va W (h:qbn W va ss) (h2:qbn W (.slice av ss.length cv) ss)=>qeT va (.slice av ss.length cv) ss ss (by omega) (by omega) hq hq W h h2);rw[(qb8 ss ss).2 rfl] at cs;clear hq;have b0:=(g4.out w9 (Below.refl _ _)).c0;have b1:=(g4.out w9 (Below.refl _ _)).c1;have b2:=(g4.out w9 (Below.refl _ _)).c2;have b3:=(g7.out w9 (Below.refl _ _)).c0;go_wp2_with fail;refine(cs.out _ _ hS4.out hSL.out).mono ?_;rintro e w10 ⟨rfl,Bx⟩;have b3':=(g7.out w10 Bx).c0;have b4':=(g4.out w10 Bx).c1;have b5':=(g4.out w10 Bx).c2;have Bxh:=Lh Bx;go_wp2_with fail;refine(cs.out _ _ (hS7.out.on Bxh.out) (hSL.out.on Bxh.out)).mono ?_;rintro e w11 ⟨rfl,By⟩;have Bw:=Lh (Bxh.out.trans (By.mono Bxh.out.size));have b4:=(g4.out w11 Bw.out).c1;have b5:=(g4.out w11 Bw.out).c2;replace hSL:=Lh (hSL.out.on Bw.out);replace hLnh:=Lh (hLnh.out.on Bw.out);have B11:=Lh (B9.out.trans (Bw.out.mono B9.out.size));clear Bx By Bxh b0 b1 b2 b3 b3' b4' b5' cs hS4 hS7 g4 g7 Bw B9;go_wp2_with fail;clear hlth hllh hTl hTr hzT;go_loopg [103] (ss.length+1) (fun gk s103 wx=> ∃k:Nat,k≤ss.length∧ss.length - k<gk∧s103= .int .i64 (k:Int)∧Hid (Below w11.heap.size w11 wx))
 case atStart=>exact⟨0,by omega,by omega,by go_num,Lh (Below.refl _ _)⟩
 case round=>
  obtain⟨k,hk,hgk,rfl,BJ⟩:=hrel;obtain⟨gk0,hg0⟩: ∃g,g=gk:=⟨_,rfl⟩;subst hg0
  by_cases hlt:k<ss.length
  ·have u2:decide ((k:Int)<(ss.length:Int))=true:=dT (by omega);have u3:decide (k<ss.length)=true:=dT hlt;obtain⟨bb,off,lv,rfl,hbl,⟨x0,x1,x2,x3⟩,hxl⟩:=(hSL.out.on BJ.out).at' k hlt;obtain⟨g,rfl,y0⟩:=(hLnh.out.on BJ.out).at' k (by rw[List.length_map];exact hlt);obtain⟨s,hsx⟩: ∃s,Hid (s=ss.getD k qa6):=⟨_,Lh rfl⟩
   have hgm:(ss.map qam).getD k []=qam s:=by
    rw[hsx.out,List.getD_eq_getElem?_getD,List.getElem?_map,List.getD_eq_getElem?_getD,List.getElem?_eq_getElem hlt];rfl
   have hsm:s∈ss:=by rw[hsx.out,List.getD_eq_getElem?_getD,List.getElem?_eq_getElem hlt];exact List.getElem_mem _
   rw[hgm] at y0;rw[←hsx.out] at x1 x2 x3 hxl;have ho:=hok.out s hsm;have hb:=hbt.out s hsm;obtain⟨la,lc,rfl⟩:=hxl.shape;have hlen2:(qam s).length≤65536:=by have:=ho.l;omega
   have hlF:=ho.line;have cl:=fun W (hb1:Below wr.heap.size wr W)=>qhi (.agg #[.slice la s.ls.length lc,.int .u64 (s.bits:Int),.bool s.st,.int .i64 s.t]) s hb.1 hb.2.1 hb.2.2 W (GG.out W (B11.out.trans ((BJ.out.trans (hb1.mono BJ.out.size)).mono B11.out.size))) ⟨_,rfl,hxl.on hb1⟩
   rw[hlF] at cl;have cr:=fun W (hb1:Below wr.heap.size wr W)=>qku s ho.b ho.t0 ho.t1 ho.r W (GG.out W (B11.out.trans ((BJ.out.trans (hb1.mono BJ.out.size)).mono B11.out.size))) hlen2
   have cm:=fun a' c' W (hb1:Below wr.heap.size wr W) (hr':qaH W (.slice a' s.ls.length c') s.ls)=>qg3 (.agg #[.slice a' s.ls.length c',.int .u64 (s.bits:Int),.bool s.st,.int .i64 s.t]) (.agg #[.slice la s.ls.length lc,.int .u64 (s.bits:Int),.bool s.st,.int .i64 s.t]) s s (by have:=hb.1.n;omega) (by have:=hb.1.n;omega) W ⟨_,rfl,hr'⟩ ⟨_,rfl,hxl.on hb1⟩
   rw[(qcK s s).2 rfl] at cm;have cg:=fun W (hb1:Below wr.heap.size wr W)=>qhK (.agg #[.slice la s.ls.length lc,.int .u64 (s.bits:Int),.bool s.st,.int .i64 s.t]) s hb.1 W ⟨_,rfl,hxl.on hb1⟩
   rw[ho.r] at cg
   have ck: ∀W,Calls Tryz.prog 36 #[.string (BS (qam s))] W fun e w'=>e= .returned (.string ⟨#[115,97,109,112,108,101]⟩)∧Below W.heap.size W w':=fun W=>by
    have:=qdb (qam s) hlen2 W;rw[qge s ho.r] at this;exact this
   have tk:(⟨#[115,97,109,112,108,101]⟩:ByteArray).toList=[115,97,109,112,108,101]:=by rw[ByteArray.toList_eq]
   have ci:=Lh (fun sj (hj:sj∈ss) a' c' W (h1:qaH W (.slice a' sj.ls.length c') sj.ls) (h2:qaH W (.slice la s.ls.length lc) s.ls)=>qg3 (.agg #[.slice a' sj.ls.length c',.int .u64 (sj.bits:Int),.bool sj.st,.int .i64 sj.t]) (.agg #[.slice la s.ls.length lc,.int .u64 (s.bits:Int),.bool s.st,.int .i64 s.t]) sj s (by have:=(hbt.out sj hj).1.n;omega) (by have:=hb.1.n;omega) W ⟨_,rfl,h1⟩ ⟨_,rfl,h2⟩);have hinj:=Lh (fun sj (hj:sj∈ss) (h:qam sj=qam s)=>qkj (hok.out sj hj) ho h);have hxlh:=Lh hxl;replace cl:=Lh cl;replace cr:=Lh cr;replace cm:=Lh cm;replace cg:=Lh cg;replace ck:=Lh ck;have Bx: ∀ob,Hid (Below wr.heap.size wr (wr.alloc ob)):=fun ob=>Lh ((Below.refl _ _).alloc (Nat.le_refl _) ob)
   obtain⟨tl,htl⟩: ∃tl,Hid (qam s=tl):=⟨_,Lh rfl⟩;rw[htl.out] at y0 cl cr ck;clear ho hb hxl hlen2 hlF hgm hsm;obtain⟨ls,bits,st,t⟩:=s;simp only at x0 x1 x2 x3 cl cr cm cg ci hxlh;go_wp2_with fail;have N0:SB wr.heap.size (.slice la ls.length lc) (bits:Int) st t (wr.alloc (.cells #[.slice la ls.length lc,.int .u64 (bits:Int),.bool st,.int .i64 t] 34)):=World.alloc_heap_new wr _;have BB0:=(Bx (.cells #[.slice la ls.length lc,.int .u64 (bits:Int),.bool st,.int .i64 t] 34)).out;refine(cl.out _ BB0).mono ?_;rintro e w12 ⟨rfl,Bq⟩;have N1:=Lh (N0.on Bq);have BB1:=Lh (BB0.trans (Bq.mono BB0.size));clear N0 BB0 Bq Bx cl x0 x1 x2 x3;go_wp2_with fail;refine(cr.out _ BB1.out).mono ?_;rintro e w13 ⟨⟨a13,c13,rfl,L13⟩,Bq⟩;have By:Below w13.heap.size w13 (w13.alloc (.cells #[.slice a13 ls.length c13,.int .u64 (bits:Int),.bool st,.int .i64 t] 34)):=(Below.refl _ _).alloc (Nat.le_refl _) _;have N9:SB w13.heap.size (.slice a13 ls.length c13) (bits:Int) st t (w13.alloc (.cells #[.slice a13 ls.length c13,.int .u64 (bits:Int),.bool st,.int .i64 t] 34)):=World.alloc_heap_new w13 _;have Bz:=Bq.trans (By.mono Bq.size);have N2:=N1.out.on Bz;have BB2:=Lh (BB1.out.trans (Bz.mono BB1.out.size));replace L13:=Lh (L13.on By);clear N1 BB1 Bq By Bz cr;go_upto_region 15 with (fail)
   generalize w13.alloc (.cells #[.slice a13 ls.length c13,.int .u64 (bits:Int),.bool st,.int .i64 t] 34)=w14 at*;generalize w13.heap.size=D13 at*;have c0:=N2.c0;have c1:=N2.c1;have c2:=N2.c2;have c3:=N2.c3;have d0:=N9.c0;have d1:=N9.c1;have d2:=N9.c2;have d3:=N9.c3
   replace y0:=(BB2.out.cell (p:=⟨g,k,none⟩) (by
    have h:=hLnh.out.on BJ.out;rcases h with ⟨_,_,h1,h2⟩|⟨g',c',h1,h2,_⟩
    ·rw[List.map_eq_nil_iff] at h2;rw[h2] at hlt;simp at hlt
    ·simp only[Value.slice.injEq,Option.some.injEq,Addr.mk.injEq] at h1
     rw[h1.1.1];exact h2)).trans y0
   have N2h:=Lh N2;clear N9 N2;go_wp2_with fail;refine(cm.out _ _ _ BB2.out L13.out).mono ?_;rintro e w15 ⟨rfl,Bq⟩;have N3:=N2h.out.on Bq;have BB3:=Lh (BB2.out.trans (Bq.mono BB2.out.size));clear d0 d1 d2 d3 c0 c1 c2 c3 y0 Bq cm N2h L13 BB2;have c0:=N3.c0;have c1:=N3.c1;have c2:=N3.c2;have c3:=N3.c3;replace N3:=Lh N3;go_wp2_with fail;refine(cg.out _ BB3.out).mono ?_;rintro e w16 ⟨rfl,Bq⟩;have N4:=Lh (N3.out.on Bq);have BB4:=Lh (BB3.out.trans (Bq.mono BB3.out.size));clear c0 c1 c2 c3 Bq cg N3 BB3;go_wp2_with fail;refine(ck.out _).mono ?_;rintro e w17 ⟨rfl,Bq⟩;have N5:=Lh (N4.out.on Bq);have BB5:=Lh (BB4.out.trans (Bq.mono BB4.out.size));have BJ5:=Lh (BJ.out.trans (BB5.out.mono BJ.out.size));clear Bq ck N4 BB4;go_wp2_with fail;obtain⟨D0,hD0⟩: ∃D,wr.heap.size=D:=⟨_,rfl⟩;rw[hD0] at N5;rw[hD0];clear hD0;have L5:=Lh (hxlh.out.on BB5.out);clear hxlh BB5 BJ;go_loopg [147] (k+1) (fun gk s147 wx=> ∃j:Nat,j≤k∧k - j<gk∧s147= .int .i64 (j:Int)∧Hid (Below w17.heap.size w17 wx))
   case atStart=>exact⟨0,by omega,by omega,by go_num,Lh (Below.refl _ _)⟩
   case round=>
    obtain⟨j,hj,hgj,rfl,Bj⟩:=hrel
    by_cases hjk:j<k
    ·have u4:decide ((j:Int)<(k:Int))=true:=dT (by omega);have u5:decide (j<k)=true:=dT hjk;have u6:decide (j<ss.length)=true:=dT (by omega);have hjl:j<ss.length:=by omega
     have hjl2:(j:Int)<(ss.length:Int):=by omega
     have hj0:(0:Int)≤(j:Int):=by omega
     have BJj:=BJ5.out.trans (Bj.out.mono BJ5.out.size);obtain⟨bb',off',lv',hbo,hbl',⟨x0,x1,x2,x3⟩,hxl'⟩:=(hSL.out.on BJj).at' j (by omega);obtain⟨g',hgg,y0⟩:=(hLnh.out.on BJj).at' j (by rw[List.length_map];omega);simp only[Option.some.injEq,Addr.mk.injEq,and_true] at hbo hgg;obtain⟨rfl,rfl⟩:=hbo;subst hgg;obtain⟨sj,hsj⟩: ∃s,Hid (s=ss.getD j qa6):=⟨_,Lh rfl⟩
     have hgm:(ss.map qam).getD j []=qam sj:=by
      rw[hsj.out,List.getD_eq_getElem?_getD,List.getElem?_map,List.getD_eq_getElem?_getD,List.getElem?_eq_getElem (show j<ss.length by omega)];rfl
     have hsm:sj∈ss:=by rw[hsj.out,List.getD_eq_getElem?_getD,List.getElem?_eq_getElem (show j<ss.length by omega)];exact List.getElem_mem _
     rw[hgm] at y0;rw[←hsj.out] at x1 x2 x3 hxl';obtain⟨la',lc',rfl⟩:=hxl'.shape;have cc:=ci.out sj hsm la' lc';obtain⟨q,hq⟩: ∃q,qmp sj ⟨ls,bits,st,t⟩=q:=⟨_,rfl⟩;rw[hq] at cc
     have tn:((BS (qam sj)).toList==(BS tl).toList)=q:=by
      rw[qab,qab,←hq]
      cases hse:qmp sj ⟨ls,bits,st,t⟩with
      |true=>rw[(qcK _ _).1 hse,htl.out];simp
      |false=>
       rw[beq_eq_false_iff_ne];intro e;rw[hinj.out sj hsm (e.trans htl.out.symm),(qcK _ _).2 rfl] at hse;cases hse
     have Nj:=N5.out.on Bj.out;have c0:=Nj.c0;have c1:=Nj.c1;have c2:=Nj.c2;have c3:=Nj.c3
     have hgl:g<wr.heap.size:=by
      rcases hLnh.out.on BJj with ⟨_,_,h1,h2⟩|⟨g',c',h1,h2,_⟩
      ·rw[List.map_eq_nil_iff] at h2;rw[h2] at hlt;simp at hlt
      ·simp only[Value.slice.injEq,Option.some.injEq,Addr.mk.injEq] at h1;rw[h1.1.1];exact h2
     have hNl:=Nj.lt;have Lj:=L5.out.on Bj.out;have cch:=Lh (fun W (hb:Below wr.heap.size wr W)=>cc W (hxl'.on hb) (Lj.on hb));clear hq hsm hgm hsj cc hxl' Nj Lj BJj;obtain⟨tj,htj⟩: ∃tj,qam sj=tj:=⟨_,rfl⟩;rw[htj] at y0 tn;clear htj;obtain⟨ls',bits',st',t'⟩:=sj;simp only at x0 x1 x2 x3 cch;have hS:Hid (∀W,Below wr.heap.size wr W→(W.cell? ⟨g,j,none⟩=some (.string (BS tj))∧W.cell? ⟨bb,off+j*4,none⟩=some (.slice la' ls'.length lc')∧W.cell? ⟨bb,off+j*4+1,none⟩=some (.int .u64 (bits':Int))∧W.cell? ⟨bb,off+j*4+2,none⟩=some (.bool st')∧W.cell? ⟨bb,off+j*4+3,none⟩=some (.int .i64 t')∧W.cell? ⟨D0,0,none⟩=some (.slice la ls.length lc)∧W.cell? ⟨D0,1,none⟩=some (.int .u64 (bits:Int))∧W.cell? ⟨D0,2,none⟩=some (.bool st)∧W.cell? ⟨D0,3,none⟩=some (.int .i64 t))):=Lh (fun W hb=>⟨(hb.cell (p:=⟨g,j,none⟩) hgl).trans y0,(hb.cell (p:=⟨bb,off+j*4,none⟩) hbl').trans x0,(hb.cell (p:=⟨bb,off+j*4+1,none⟩) hbl').trans x1,(hb.cell (p:=⟨bb,off+j*4+2,none⟩) hbl').trans x2,(hb.cell (p:=⟨bb,off+j*4+3,none⟩) hbl').trans x3,(hb.cell (p:=⟨D0,0,none⟩) hNl).trans c0,(hb.cell (p:=⟨D0,1,none⟩) hNl).trans c1,(hb.cell (p:=⟨D0,2,none⟩) hNl).trans c2,(hb.cell (p:=⟨D0,3,none⟩) hNl).trans c3⟩);have hc2:=Lh ((cch.out wr.drew ((Below.refl _ _).drew)).mono (fun e w' h=>(⟨h.1,((Below.refl wr.heap.size wr).drew).trans h.2⟩:e= .returned (.bool q)∧Below wr.heap.size wr w')));clear cch;go_upto_region 20 with (fail)
     go_region_held3 (fun W=>W.cell? ⟨g,j,none⟩=some (.string (BS tj))∧W.cell? ⟨bb,off+j*4,none⟩=some (.slice la' ls'.length lc')∧W.cell? ⟨bb,off+j*4+1,none⟩=some (.int .u64 (bits':Int))∧W.cell? ⟨bb,off+j*4+2,none⟩=some (.bool st')∧W.cell? ⟨bb,off+j*4+3,none⟩=some (.int .i64 t')∧W.cell? ⟨D0,0,none⟩=some (.slice la ls.length lc)∧W.cell? ⟨D0,1,none⟩=some (.int .u64 (bits:Int))∧W.cell? ⟨D0,2,none⟩=some (.bool st)∧W.cell? ⟨D0,3,none⟩=some (.int .i64 t)) (first|go_keep|(with_reducible exact hS.out _ hbA)) ((go_at_call 28;refine hc2.out.mono ?_;rintro e w18 ⟨rfl,hbA⟩));go_wp2_with fail;have Bj2:=Lh (Bj.out.trans (hbA.mono Bj.out.size));go_roundg (gk - 1)
     case measure=>omega
     case rel=>exact⟨j+1,by omega,by omega,by go_num,Bj2⟩
    ·obtain rfl:j=k:=by omega
     have u4:decide ((j:Int)<(j:Int))=false:=dF (by omega);have BJ6:=Lh (BJ5.out.trans (Bj.out.mono BJ5.out.size));clear Bj BJ5 ci hinj L5 N5;go_wp2_with fail;go_roundg (gk0 - 1)
     case measure=>omega
     case rel=>exact⟨j+1,by omega,by omega,by go_num,BJ6⟩
  ·obtain rfl:k=ss.length:=by omega
   have u4:decide ((ss.length:Int)<(ss.length:Int))=false:=dF (by omega);have B12:=Lh (B11.out.trans (BJ.out.mono B11.out.size));go_wp2_with fail;go_ret;exact⟨rfl,B12.out⟩
end Go.Proofs.YtdeimnnpcfncpaaGreatDoor.X
