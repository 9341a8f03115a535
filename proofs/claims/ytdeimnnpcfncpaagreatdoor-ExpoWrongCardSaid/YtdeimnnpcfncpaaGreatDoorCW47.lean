/- Parts of the proof: T5 T6 T9a UB KS OS. -/
import Derived.Lib.MapLaws
import Derived.Lib.QuoteLoop
import Derived.Lib.ReplaceLaws
import Derived.Shelf.Strings.LastIndex
import Derived.Shelf.Strings.LastIndexAll
import Derived.Shelf.Strings.MapAny
import Derived.Ground.PaProg
import Derived.Shelf.Path.Small
import Derived.ChangeSlices
import Derived.SliceStrings
import Derived.Test.YtdeimnnpcfncpaaGreatDoorCW46
set_option linter.unusedVariables false
set_option linter.unusedSimpArgs false
set_option maxRecDepth 100000
set_option maxHeartbeats 64000000
section
namespace Go.Proofs.YtdeimnnpcfncpaaGreatDoor.X
open Go Go.RowKit
theorem N2s (w:World) (x y:Obj):((w.alloc x).alloc y).heap.size=w.heap.size+2:=by show(Array.push (Array.push _ _) _).size=_;rw[Array.size_push,Array.size_push]
theorem N26 (w:World) (x y:Obj):((w.alloc x).alloc y).heap[w.heap.size]?=some x:=by
 rw[show((w.alloc x).alloc y).heap=(w.heap.push x).push y from rfl,Array.getElem?_push_lt (by rw[Array.size_push];omega)];rw[Array.getElem_push_eq]
theorem N27 (w:World) (x y:Obj):((w.alloc x).alloc y).heap[w.heap.size+1]?=some y:=by
 rw[show((w.alloc x).alloc y).heap=(w.heap.push x).push y from rfl,show w.heap.size+1=(w.heap.push x).size by rw[Array.size_push],Array.getElem?_push_size]
theorem qqY {v:List UInt8} (h:v∈upL):qbS (qag,v)=0:=by
 obtain⟨_,h2,_⟩:=qin h;unfold qbS;rw[if_pos (show qaj 95 qag=true by decide),if_pos h2]
theorem qoa (qs:List (Nat×Nat)): ∀x∈mdF qs,x.1.length≤19∧x.2.length≤10:=by
 intro x hx;obtain⟨h1,h2⟩:=(qnq qs).2 x hx;have a1:=List.all_eq_true.1 qfx _ h1;have a2:=List.all_eq_true.1 qhz _ h2;simp only[decide_eq_true_eq] at a1 a2;exact⟨a1,by omega⟩
def qgx (w:World) (e:Ending) (w':World):Prop:=
 Below w.heap.size w w'∧ ∃v s,e= .returned (.tuple #[v,.bool true])∧MdS s∧qsj w.heap.size w' v s
def qiL (D:Nat) (lv:Value) (b:Int) (st:Bool) (t:Int) (W:World):World:=(((W.setCell ⟨D,0,none⟩ lv).setCell ⟨D,1,none⟩ (.int .u64 b)).setCell ⟨D,2,none⟩ (.bool st)).setCell ⟨D,3,none⟩ (.int .i64 t)
theorem qpn {w W:World} {lv lv0:Value} {b0 t0 b t:Int} {st0 st:Bool} {r:List Lb} (X:SB (w.heap.size+1) lv0 b0 st0 t0 W) (own:W.ownsRow (w.heap.size+2) 44 2 lv r.length (qaa r)) (BW:Below w.heap.size w W):
 SB (w.heap.size+1) lv b st t (qiL (w.heap.size+1) lv b st t W)∧(qiL (w.heap.size+1) lv b st t W).ownsRow (w.heap.size+2) 44 2 lv r.length (qaa r)∧Below w.heap.size w (qiL (w.heap.size+1) lv b st t W):=by
 refine⟨(((X.set0 lv).set1 b).set2 st).set3 t,?_,?_⟩
 ·exact qal (qal (qal (qal own (qai _ _ 0 _) (by omega)) (qai _ _ 1 _) (by omega)) (qai _ _ 2 _) (by omega)) (qai _ _ 3 _) (by omega)
 ·exact(((BW.setCell (p:=⟨w.heap.size+1,0,none⟩) (by show w.heap.size≤w.heap.size+1;omega) _).setCell (p:=⟨w.heap.size+1,1,none⟩) (by show w.heap.size≤w.heap.size+1;omega) _).setCell (p:=⟨w.heap.size+1,2,none⟩) (by show w.heap.size≤w.heap.size+1;omega) _).setCell (p:=⟨w.heap.size+1,3,none⟩) (by show w.heap.size≤w.heap.size+1;omega) _
theorem qdi {w W W':World} {lv lv0:Value} {b0 t0:Int} {st0:Bool} {s:Smp} (hs:MdS s) (X:SB (w.heap.size+1) lv0 b0 st0 t0 W) (own:W.ownsRow (w.heap.size+2) 44 2 lv s.ls.length (qaa s.ls)) (BW:Below w.heap.size w W)
 (hb:Below (qiL (w.heap.size+1) lv s.bits s.st s.t W).heap.size (qiL (w.heap.size+1) lv s.bits s.st s.t W) W'):
 SB (w.heap.size+1) lv s.bits s.st s.t W'∧qgx w (.returned (.tuple #[.agg #[lv,.int .u64 (s.bits:Int),.bool s.st,.int .i64 s.t],.bool true])) W':=by
 obtain⟨h1,h2,h3⟩:=qpn (b:=s.bits) (t:=s.t) (st:=s.st) X own BW;exact⟨h1.on hb,h3.trans (hb.mono h3.size),_,s,rfl,hs,lv,rfl,qaK (qaf h2 hb) (by omega)⟩
theorem qjI:Go.Proofs.YtdeimnnpcfncpaaGreatDoor.kindN 4609434218613702656≠4:=by decide
theorem qlB (nm bits:Nat) (tm:Int) (td:Bool) (qs:List (Nat×Nat)) (a:Option Addr) (n c:Nat) (h1:nm<256) (h2:bits<18446744073709551616) (h3: -9223372036854775808≤tm) (h4:tm≤9223372036854775807) (w:World) (hr:qnZ w (.slice a n c) qs) (hn:n=qs.length) (hl:n≤9223372036854775807) (hcn:n≤c):
 Calls Tryz.prog 15 #[.agg #[.int .u8 (nm:Int),.slice a n c,.int .u64 (bits:Int),.int .i64 tm,.bool td]] w (qgx w):=by
 have hrh:=Lh hr;have hnh:=Lh hn;clear hr hn;go_enter Tryz.func15,Tryz.ntmps15;go_wp2_with fail;refine(qik qs _ a n c (hrh.out.on (((Below.refl _ w).alloc (Nat.le_refl _) _).alloc (by show w.heap.size≤(Array.push _ _).size;rw[Array.size_push];omega) _)) hnh.out hl hcn).mono ?_;rintro e w1 ⟨v1,rfl,own1,B1,hl40,hne⟩;obtain⟨r,hof,hright,hr16,hrl⟩:=qre qs;have c2:=Lh (qjk v1 (mdF qs) (by omega) (fun x hx=>by have:=qoa qs x hx;omega) w1 (qaC.of_owned own1) hne);obtain⟨a1,n1,rfl⟩:=qad own1;have B1h:=Lh B1;clear own1 B1;go_wp2_with fail;refine c2.out.mono ?_;unfold qq3;rw[hof];rintro e w2 ⟨v2,rfl,own2,B2⟩;have B2h:=Lh (B1h.out.trans (B2.mono B1h.out.size));have own2h:=Lh own2;obtain⟨a2,n2,rfl⟩:=qad own2;have hs0:w.heap.size+2≤w2.heap.size:=by have:=B2h.out.size;rw[N2s] at this;exact this
 have hD0:w.heap.size<w2.heap.size:=by omega
 have hD1:w.heap.size+1<w2.heap.size:=by omega
 have m0:w2.cell? ⟨w.heap.size,0,none⟩=some (.int .u8 (nm:Int)):=(B2h.out.cell (p:=⟨w.heap.size,0,none⟩) (by rw[N2s];exact Nat.lt_succ_of_lt (Nat.lt_succ_self _))).trans (by rw[Lib.cell_of_heap (N26 w _ _)];rfl);clear own2 B2 c2 B1h hof
 have hc17:Hid (∀(ve:Value) (y:List UInt8) (W:World),y∈upL→Below w2.heap.size w2 W→qaC W ve [(qag,y)]→Calls Tryz.prog 17 #[.slice a2 r.length n2,ve] W (qhJ r [(qag,y)] W)):=Lh (by
  intro ve y W hy hb hv;obtain⟨u1,u2,u3⟩:=qin hy
  exact qnH (.slice a2 r.length n2) ve r [(qag,y)] hright (fun x hx=>by rw[List.mem_singleton] at hx;subst hx;exact qqY hy) (by simp;omega) (fun x hx=>by have:=hrl x hx;omega) (fun x hx=>by rw[List.mem_singleton] at hx;subst hx;exact⟨by show qag.length≤_;decide,by show y.length≤_;omega⟩) W ((qaC.of_owned own2h.out).on hb) hv)
 obtain⟨m8,hm8⟩: ∃m,Hid (nm%8=m):=⟨_,Lh rfl⟩;have l8:m8<8:=by have:=hm8.out;omega
 have e8:((nm:Int)%8)=(m8:Int):=by have:=hm8.out;omega
 have d8:decide (m8<8)=true:=dT l8;have d8':decide ((m8:Int)<8)=true:=dT (by omega);obtain⟨y,hy⟩: ∃y,upL.getD m8 []=y:=⟨_,rfl⟩;have hyu:Hid (y∈upL):=Lh (by rw[←hy];exact qdn l8)
 have yN:(w2.alloc (.cells #[.string ⟨#[117,112]⟩,.string ⟨#[97]⟩,.string ⟨#[104,116,116,112,95,116,111,116,97,108]⟩,.string ⟨#[97,58,98]⟩,.string ⟨#[120]⟩,.string ⟨#[108,101]⟩,.string ⟨#[95]⟩,.string ⟨#[122,57]⟩] 9)).cell? ⟨w2.heap.size,m8,none⟩=some (.string (BS y)):=by
  rw[Lib.cell_of_heap (World.alloc_heap_new _ _),←hy];rcases(show m8=0∨m8=1∨m8=2∨m8=3∨m8=4∨m8=5∨m8=6∨m8=7 by omega)with rfl|rfl|rfl|rfl|rfl|rfl|rfl|rfl<;>rfl
 clear hy;have X0:Hid (w2.heap[w.heap.size]?=some (.cells #[.int .u8 (nm:Int),.slice a n c,.int .u64 (bits:Int),.int .i64 tm,.bool td] 26 (0,0))):=Lh ((B2h.out.block _ (by rw[N2s];omega)).trans (N26 w _ _));have X1:Hid (SB (w.heap.size+1) (.slice none 0 0) 0 false 0 w2):=Lh ((B2h.out.block _ (by rw[N2s];omega)).trans (N27 w _ _));have BW:Hid (Below w.heap.size w w2):=Lh ((((Below.refl _ w).alloc (Nat.le_refl _) _).alloc (by show w.heap.size≤(Array.push _ _).size;rw[Array.size_push];omega) _).trans (B2h.out.mono (by rw[N2s];omega)));go_wp2_with fail;have R1:=qaC.of_owned (row_one (w2.alloc (.cells #[.string ⟨#[117,112]⟩,.string ⟨#[97]⟩,.string ⟨#[104,116,116,112,95,116,111,116,97,108]⟩,.string ⟨#[97,58,98]⟩,.string ⟨#[120]⟩,.string ⟨#[108,101]⟩,.string ⟨#[95]⟩,.string ⟨#[122,57]⟩] 9)) y);rw[World.size_alloc] at R1;have Ba:Below w2.heap.size w2 ((w2.alloc (.cells #[.string ⟨#[117,112]⟩,.string ⟨#[97]⟩,.string ⟨#[104,116,116,112,95,116,111,116,97,108]⟩,.string ⟨#[97,58,98]⟩,.string ⟨#[120]⟩,.string ⟨#[108,101]⟩,.string ⟨#[95]⟩,.string ⟨#[122,57]⟩] 9)).alloc (.cells #[.string (BS qag),.string (BS y)] 44)):=((Below.refl _ _).alloc (Nat.le_refl _) _).alloc (by rw[World.size_alloc];omega) _;refine(hc17.out _ y _ hyu.out Ba R1).mono ?_;rintro e w4 ⟨v4,r2,rfl,own4,B4,hset⟩;have B5:Below w2.heap.size w2 w4:=Ba.trans (B4.mono Ba.size);obtain⟨a4,n4,rfl⟩:=qad own4;replace X0:=Lh ((B5.block _ hD0).trans X0.out);replace X1:=Lh (X1.out.on B5);replace BW:=Lh (BW.out.trans (B5.mono BW.out.size));have O4:=Lh (qaK own4 (show w.heap.size+2≤_ by have:=Ba.size;omega));have hseth:=Lh hset;have hD0':w.heap.size<w4.heap.size:=Nat.lt_of_lt_of_le hD0 B5.size;have hD1':w.heap.size+1<w4.heap.size:=Nat.lt_of_lt_of_le hD1 B5.size;clear own4 B4 hset Ba R1 B5 yN hc17 own2h B2h m0 hne hs0 hD0 hD1 e8 d8 d8' l8 hm8;have m2:w4.cell? ⟨w.heap.size,2,none⟩=some (.int .u64 (bits:Int)):=by rw[Lib.cell_of_heap X0.out];rfl
 have m3:w4.cell? ⟨w.heap.size,3,none⟩=some (.int .i64 tm):=by rw[Lib.cell_of_heap X0.out];rfl
 have m4:w4.cell? ⟨w.heap.size,4,none⟩=some (.bool td):=by rw[Lib.cell_of_heap X0.out];rfl
 have f1:=X1.out.c0;have f2:=X1.out.c1;have f3:=X1.out.c2;have f4:=X1.out.c3;have z0:=X1.out.fz 0;have z1:=X1.out.fz 1;have z2:=X1.out.fz 2;have z3:=X1.out.fz 3;have hk:=Lh (fun W=>qe0 bits h2 W);obtain⟨kn,hkn⟩: ∃kn,Hid (Go.Proofs.YtdeimnnpcfncpaaGreatDoor.kindN bits=kn):=⟨_,Lh rfl⟩;rw[hkn.out] at hk;go_wp2_with fail;refine(hk.out _).mono ?_;rintro e w5 ⟨rfl,rfl⟩
 by_cases hnan:kn=4
 ·have t1:((kn:Int)==4)=true:=by simp[hnan]
  cases td with
  |true=>
   obtain⟨p1,p2,p3⟩:=qin hyu.out;have hs:=qkX (bits:=4609434218613702656) (st:=true) (t:=tm) hright hr16 (fun x hx=>(hrl x hx).2) p1 p2 p3 hseth.out (by decide) qjI (.inl rfl) h3 h4;have FE:=fun W' hb=>qdi (W':=W') hs X1.out O4.out BW.out hb
   replace FE:=Lh FE;clear hs p1 p2 p3;go_upto_region 9 with (fail)
   go_region;go_wp2_with fail;have FF:=Lh (FE.out _ (((Below.refl _ _).alloc (Nat.le_refl _) (.cells #[.slice a4 r2.length n4,.int .u64 ((4609434218613702656:Nat):Int),.bool true,.int .i64 tm] 34)).drew));refine bodyPost_ret (qaq rfl _ _ _ _ _ _ _ rfl FF.out.1) rfl ?_;exact FF.out.2
  |false=>
   obtain⟨p1,p2,p3⟩:=qin hyu.out;have hs:=qkX (bits:=4609434218613702656) (st:=false) (t:=0) hright hr16 (fun x hx=>(hrl x hx).2) p1 p2 p3 hseth.out (by decide) qjI (.inr rfl) (by decide) (by decide);have FE:=fun W' hb=>qdi (W':=W') hs X1.out O4.out BW.out hb
   replace FE:=Lh FE;clear hs p1 p2 p3;go_wp2_with fail;have FF:=Lh (FE.out _ (((Below.refl _ _).alloc (Nat.le_refl _) (.cells #[.slice a4 r2.length n4,.int .u64 ((4609434218613702656:Nat):Int),.bool false,.int .i64 0] 34))));refine bodyPost_ret (qaq rfl _ _ _ _ _ _ _ rfl FF.out.1) rfl ?_;exact FF.out.2
 ·have t1:((kn:Int)==4)=false:=by simp;omega
  cases td with
  |true=>
   obtain⟨p1,p2,p3⟩:=qin hyu.out;have hs:=qkX (bits:=bits) (st:=true) (t:=tm) hright hr16 (fun x hx=>(hrl x hx).2) p1 p2 p3 hseth.out h2 (by rw[hkn.out];exact hnan) (.inl rfl) h3 h4;have FE:=fun W' hb=>qdi (W':=W') hs X1.out O4.out BW.out hb
   replace FE:=Lh FE;clear hs p1 p2 p3;go_upto_region 9 with (fail)
   go_region;go_wp2_with fail;have FF:=Lh (FE.out _ (((Below.refl _ _).alloc (Nat.le_refl _) (.cells #[.slice a4 r2.length n4,.int .u64 ((bits:Nat):Int),.bool true,.int .i64 tm] 34)).drew));refine bodyPost_ret (qaq rfl _ _ _ _ _ _ _ rfl FF.out.1) rfl ?_;exact FF.out.2
  |false=>
   obtain⟨p1,p2,p3⟩:=qin hyu.out;have hs:=qkX (bits:=bits) (st:=false) (t:=0) hright hr16 (fun x hx=>(hrl x hx).2) p1 p2 p3 hseth.out h2 (by rw[hkn.out];exact hnan) (.inr rfl) (by decide) (by decide);have FE:=fun W' hb=>qdi (W':=W') hs X1.out O4.out BW.out hb
   replace FE:=Lh FE;clear hs p1 p2 p3;go_wp2_with fail;have FF:=Lh (FE.out _ (((Below.refl _ _).alloc (Nat.le_refl _) (.cells #[.slice a4 r2.length n4,.int .u64 ((bits:Nat):Int),.bool false,.int .i64 0] 34))));refine bodyPost_ret (qaq rfl _ _ _ _ _ _ _ rfl FF.out.1) rfl ?_;exact FF.out.2
structure Sm where
 nm:Nat
 bits:Nat
 tm:Int
 td:Bool
 qs:List (Nat×Nat)
def sm0:Sm:=⟨0,0,0,false,[]⟩
structure SmOk (x:Sm):Prop where
 h1:x.nm<256
 h2:x.bits<18446744073709551616
 h3: -9223372036854775808≤x.tm
 h4:x.tm≤9223372036854775807
def SmV (W:World) (lv:Value) (x:Sm):Prop:= ∃a c,lv= .slice a x.qs.length c∧qnZ W (.slice a x.qs.length c) x.qs∧x.qs.length≤c∧x.qs.length≤9223372036854775807
theorem SmV.on {w W:World} {lv:Value} {x:Sm} (h:SmV w lv x) (hb:Below w.heap.size w W):SmV W lv x:=by
 obtain⟨a,c,h1,h2,h3,h4⟩:=h;exact⟨a,c,h1,h2.on hb,h3,h4⟩
def qjT (W:World) (b o:Nat) (lv:Value) (x:Sm):Prop:=
 W.cell? ⟨b,o,none⟩=some (.int .u8 (x.nm:Int))∧W.cell? ⟨b,o+1,none⟩=some lv∧W.cell? ⟨b,o+2,none⟩=some (.int .u64 (x.bits:Int))∧W.cell? ⟨b,o+3,none⟩=some (.int .i64 x.tm)∧W.cell? ⟨b,o+4,none⟩=some (.bool x.td)
def SmRow (W:World) (v:Value) (xs:List Sm):Prop:=
 (∃a c,v= .slice a 0 c∧xs=[])∨
 ∃b off cap,v= .slice (some ⟨b,off,none⟩) xs.length cap∧b<W.heap.size∧xs.length≤cap∧cap≤maxLen∧
  ∀i,i<xs.length→SmOk (xs.getD i sm0)∧ ∃lv,qjT W b (off+i*5) lv (xs.getD i sm0)∧SmV W lv (xs.getD i sm0)
theorem SmRow.on {w W:World} {v:Value} {xs:List Sm} (h:SmRow w v xs) (hb:Below w.heap.size w W):SmRow W v xs:=by
 rcases h with h|⟨b,off,cap,h1,h2,h3,h4,h5⟩
 ·exact .inl h
 ·refine .inr ⟨b,off,cap,h1,Nat.lt_of_lt_of_le h2 hb.size,h3,h4,fun i hi=>?_⟩;obtain⟨k0,lv,⟨k1,k2,k3,k4,k5⟩,k6⟩:=h5 i hi;have k:=fun o=>hb.cell (p:=⟨b,o,none⟩) h2
  exact⟨k0,lv,⟨(k _).trans k1,(k _).trans k2,(k _).trans k3,(k _).trans k4,(k _).trans k5⟩,k6.on hb⟩
theorem qkP (x:Sm) (hx:SmOk x) (lv:Value) (w:World) (h:SmV w lv x):Calls Tryz.prog 15 #[.agg #[.int .u8 (x.nm:Int),lv,.int .u64 (x.bits:Int),.int .i64 x.tm,.bool x.td]] w (qgx w):=by
 obtain⟨a,c,rfl,h2,h3,h4⟩:=h;exact qlB x.nm x.bits x.tm x.td x.qs a _ c hx.h1 hx.h2 hx.h3 hx.h4 w h2 rfl h4 h3
def qnh (w:World) (e:Ending) (w':World):Prop:=
 Below w.heap.size w w'∧ ∃v ss,e= .returned (.tuple #[v,.bool true])∧qry w.heap.size w' v ss∧(∀s∈ss,MdS s)∧ss.length≤12
theorem qmD {w W W':World} {v v2 lv:Value} {ps:List SV} {s:Smp} (h2:W.ownsRow w.heap.size 34 4 v ps.length (qam ps)) (h3: ∀p∈ps,W.ownsRow w.heap.size 44 2 p.2 p.1.ls.length (qaa p.1.ls)) (ho:W.ownsRow w.heap.size 44 2 lv s.ls.length (qaa s.ls))
 (hown:W'.ownsRow w.heap.size 34 4 v2 (ps.length+1) (qam ps++qgn (s,lv))) (hk: ∀row,v.ownBlock≠some row→row<W.heap.size→W'.heap[row]?=W.heap[row]?):
 W'.ownsRow w.heap.size 34 4 v2 (ps++[(s,lv)]).length (qam (ps++[(s,lv)]))∧ ∀p∈ps++[(s,lv)],W'.ownsRow w.heap.size 44 2 p.2 p.1.ls.length (qaa p.1.ls):=by
 refine⟨?_,fun p hp=>?_⟩
 ·rw[List.length_append,qbh];simpa [qam] using hown
 ·rcases List.mem_append.1 hp with hp|hp
  ·exact qax (h3 p hp) h2 (by decide) hk
  ·rw[List.mem_singleton] at hp;subst hp;exact qax ho h2 (by decide) hk
theorem qrx (a:Option Addr) (c:Nat) (xs:List Sm) (w:World) (hr:SmRow w (.slice a xs.length c) xs) (hlc:xs.length≤c) (hlm:xs.length≤maxLen):
 Calls Tryz.prog 14 #[.slice a xs.length c] w (qnh w):=by
 have hrh:=Lh hr;obtain⟨n,hn⟩: ∃n,n=xs.length:=⟨_,rfl⟩;have hnh:=Lh hn;rw[←hn] at hlc hlm⊢;clear hn hr;obtain⟨k,hk⟩: ∃k:Nat,k=min n 12:=⟨_,rfl⟩;have hkm:min (n:Int) 12=(k:Int):=by omega
 have hkn:k≤n:=by omega
 have hk12:k≤12:=by omega
 have hkc:decide (k≤c)=true:=dT (by omega);go_enter Tryz.func14,Tryz.ntmps14;clear hk;go_wp2_with fail;go_loopg [4,15] (k+1) (fun gk s4 s15 wx=> ∃(i:Nat) (ps:List SV),i≤k∧k - i<gk∧s15= .int .i64 (i:Int)∧ps.length=i∧Hid (wx.ownsRow w.heap.size 34 4 s4 ps.length (qam ps))∧Hid (∀p∈ps,wx.ownsRow w.heap.size 44 2 p.2 p.1.ls.length (qaa p.1.ls))∧Hid (∀p∈ps,MdS p.1)∧Hid (Below w.heap.size w wx))
 case atStart=>exact⟨0,[],by omega,by omega,by go_num,rfl,Lh ⟨rfl,.inl ⟨rfl,rfl⟩⟩,Lh (fun p hp=>by cases hp),Lh (fun p hp=>by cases hp),Lh (Below.refl _ _)⟩
 case round=>
  obtain⟨i,ps,hi,hgk,rfl,hpl,O,OL,M,B⟩:=hrel
  by_cases hlt:i<k
  ·have hil:i<xs.length:=by rw[←hnh.out];omega
   obtain⟨x,hx⟩: ∃x,Hid (x=xs.getD i sm0):=⟨_,Lh rfl⟩
   obtain⟨b,off,rfl,hok,lv,⟨y1,y2,y3,y4,y5⟩,hsv⟩: ∃b off,a=some ⟨b,off,none⟩∧SmOk x∧ ∃lv,qjT wr b (off+i*5) lv x∧SmV wr lv x:=by
    rcases hrh.out.on B.out with ⟨_,_,h1,h2⟩|⟨b,off,cap,h1,h2,h3,h4,h5⟩
    ·rw[h2] at hil;simp at hil
    ·injection h1 with h6 _ _
     rw[hx.out];exact⟨b,off,h6,h5 i hil⟩
   have u2:decide ((i:Int)<(k:Int))=true:=dT (by omega);have u3:decide (i<k)=true:=dT hlt
   obtain⟨la,lc,rfl,hsv2⟩: ∃la lc,lv= .slice la x.qs.length lc∧SmV wr lv x:=by
    obtain⟨a,c,h1,h2⟩:=hsv;exact⟨a,c,h1,a,c,h1,h2⟩
   have Bx: ∀ob,Hid (Below wr.heap.size wr (wr.alloc ob)):=fun ob=>Lh ((Below.refl _ _).alloc (Nat.le_refl _) ob)
   have hcm:=Lh (fun W (hb:Below wr.heap.size wr W)=>qkP x hok _ W (hsv2.on hb));obtain⟨nm,bits,tm,td,qs⟩:=x;simp only at y1 y2 y3 y4 y5 hcm;clear hsv hsv2 hok hx;go_wp2_with fail;refine(hcm.out _ (Bx _).out).mono ?_;rintro e w2 ⟨B2,v,s,rfl,hmd,sv,rfl,hown⟩;obtain⟨a2,c2,rfl⟩:=qad hown;have Bw:=(Bx (.cells #[.int .u8 (nm:Int),.slice la qs.length lc,.int .u64 (bits:Int),.int .i64 tm,.bool td] 26)).out;have Bz:=Bw.trans (B2.mono Bw.size);have O2:=qaf O.out Bz;have OL2:=fun p hp=>qaf (OL.out p hp) Bz
   have B3:=B.out.trans (Bz.mono B.out.size);have hown2:=qaK hown (show w.heap.size≤_ from Nat.le_trans B.out.size Bw.size);have By:Below w2.heap.size w2 (w2.alloc (.cells #[.slice a2 s.ls.length c2,.int .u64 (s.bits:Int),.bool s.st,.int .i64 s.t] 34)):=(Below.refl _ _).alloc (Nat.le_refl _) _;have N7:SB w2.heap.size (.slice a2 s.ls.length c2) (s.bits:Int) s.st s.t (w2.alloc (.cells #[.slice a2 s.ls.length c2,.int .u64 (s.bits:Int),.bool s.st,.int .i64 s.t] 34)):=World.alloc_heap_new w2 _;replace O2:=Lh (qaf O2 By);replace OL2:=Lh (fun p hp=>qaf (OL2 p hp) By);replace B3:=Lh (B3.trans (By.mono B3.size));replace hown2:=Lh (qaf hown2 By)
   replace M:=Lh (show∀p∈ps++[(s,(.slice a2 s.ls.length c2:Value))],MdS p.1 from fun p hp=>by
    rcases List.mem_append.1 hp with hp|hp
    ·exact M.out p hp
    ·rw[List.mem_singleton] at hp;subst hp;exact hmd)
   clear hown Bw Bz B2 hcm Bx O OL B hmd By y1 y2 y3 y4 y5;have c0:=N7.c0;have c1:=N7.c1;have c2':=N7.c2;have c3:=N7.c3;have hsz:=B3.out.size;go_upto_region 6 with (fail)
   generalize w2.alloc (.cells #[.slice a2 s.ls.length c2,.int .u64 (s.bits:Int),.bool s.st,.int .i64 s.t] 34)=w3 at*;generalize w2.heap.size=D3 at*;clear N7;go_wp2_with (at_builtin;go_must (refine qdJ rfl (.tmp 26) (.tmp 28) 28 rfl 4 #[.slice a2 s.ls.length c2,.int .u64 (s.bits:Int),.bool s.st,.int .i64 s.t] rfl (by decide) w.heap.size (.agg #[.slice none 0 0,.int .u64 0,.bool false,.int .i64 0]) 48 (by kernel_rfl) qdO rfl _ ps.length (qam ps) rfl rfl O2.out (by intro u hu;simp at hu;rcases hu with rfl|rfl|rfl|rfl<;>rfl) (by decide) (by omega) hsz ?_);rintro v2 w6 hown3 hb6 hs6 hk6 _;have O6:=Lh (qmD (lv:= .slice a2 s.ls.length c2) (s:=s) O2.out OL2.out hown2.out hown3 hk6);have B6:=Lh (B3.out.trans hb6);clear hown3 hb6 hs6 hk6 O2 OL2 hown2 B3 hsz);go_roundg (gk - 1)
   case measure=>omega
   case rel=>exact⟨i+1,_,by omega,by omega,by go_num,by rw[List.length_append,hpl];rfl,Lh O6.out.1,Lh O6.out.2,M,B6⟩
  ·obtain rfl:i=k:=by omega
   have u2:decide ((i:Int)<(i:Int))=false:=dF (by omega);have R:=Lh (show qnh w (.returned (.tuple #[u4,.bool true])) wr from⟨B.out,u4,ps.map Prod.fst,rfl,⟨ps,rfl,O.out,OL.out⟩,fun s hs=>by obtain⟨p,hp,rfl⟩:=List.mem_map.1 hs;exact M.out p hp,by rw[List.length_map];omega⟩);clear B O OL M;go_wp2_with fail;go_ret2;exact R.out
theorem qbm.of_own {base:Nat} {W:World} {v:Value} {ss:List Smp} (h:qry base W v ss):qbm W v ss:=by
 obtain⟨ps,rfl,h2,h3⟩:=h;rcases h2.2 with ⟨h4,h5⟩|⟨g,cap,cur,h4,h5,h6,h7,h8,h9,h10⟩
 ·have:ps=[]:=List.eq_nil_of_length_eq_zero h5;subst this;exact .inl ⟨none,0,fun _=>rfl,h4,rfl⟩
 ·refine .inr ⟨g,0,cap,by rw[h4,List.length_map],(Array.getElem?_eq_some_iff.1 h6).1,by rw[List.length_map];exact h7,h8,fun i hi=>?_⟩;rw[List.length_map] at hi
  have hc: ∀j,j<ps.length*4→W.cell? ⟨g,j,none⟩=(qam ps)[j]?:=fun j hj=>by
   rw[Lib.cell_of_heap h6,←h10,List.getElem?_take_of_lt hj];simp
  have hs: ∀(ps:List SV) (i:Nat),i<ps.length→(qam ps)[i*4]?=(ps[i]?).map (fun p=>p.2)∧(qam ps)[i*4+1]?=(ps[i]?).map (fun p=>Value.int .u64 (p.1.bits:Int))∧(qam ps)[i*4+2]?=(ps[i]?).map (fun p=>Value.bool p.1.st)∧(qam ps)[i*4+3]?=(ps[i]?).map (fun p=>Value.int .i64 p.1.t):=by
   intro ps
   induction ps with
   |nil=>intro i hi;simp at hi
   |cons p t ih=>
    intro i hi
    cases i with
    |zero=>exact⟨rfl,rfl,rfl,rfl⟩
    |succ i=>
     have:=ih i (by simpa using hi);rw[show(i+1)*4=i*4+4 by omega];exact this
  obtain⟨k0,k1,k2,k3⟩:=hs ps i hi
  have e:(ps.map Prod.fst).getD i qaL=(ps[i]).1:=by
   rw[List.getD_eq_getElem?_getD,List.getElem?_map,List.getElem?_eq_getElem hi];rfl
  rw[List.getElem?_eq_getElem hi] at k0 k1 k2 k3;refine⟨(ps[i]).2,⟨?_,?_,?_,?_⟩,?_⟩
  ·rw[Nat.zero_add,hc _ (by omega)];exact k0
  ·rw[Nat.zero_add,hc _ (by omega),e];exact k1
  ·rw[Nat.zero_add,hc _ (by omega),e];exact k2
  ·rw[Nat.zero_add,hc _ (by omega),e];exact k3
  ·rw[e];exact qaC.of_owned (h3 _ (List.getElem_mem _))
theorem SOk.sbt {s:Smp} (h:MdS s):SBt s:=⟨⟨by have:=h.n;omega,fun x hx=>by have:=h.v x hx;omega,h.ok.b⟩,h.ok.t0,h.ok.t1⟩
theorem qlo {W W':World} {base e k n:Nat} {v:Value} {xs:List Value} (h:W.ownsRow base e k v n xs) (hk: ∀row,v.ownBlock≠some row→row<W.heap.size→W'.heap[row]?=W.heap[row]?):Lib.OthersKept e none W W':=by
 intro j o hj _ ho;refine(hk j (fun e2=>?_) (Array.getElem?_eq_some_iff.1 hj).1).trans hj;rcases h.2 with ⟨rfl,_⟩|⟨g,cap,cur,rfl,_,h3,_⟩
 ·cases e2
 ·cases e2;rw[hj] at h3;cases h3;exact ho _ _ rfl
section
variable {w:World} {N D:Nat} {ts hs:List Lb} {acc:List UInt8} {tv hv:Value} {W W':World}
end
end Go.Proofs.YtdeimnnpcfncpaaGreatDoor.X
end
section
namespace Go.Proofs.YtdeimnnpcfncpaaGreatDoor.X
open Go Go.RowKit Go.ChangeShapes Go.WideShapes
theorem qci {α:Type} (n:Nat) (P:Nat→α→Prop) (h: ∀i,i<n→ ∃y,P i y): ∃l:List α,l.length=n∧ ∀i (hi:i<l.length),P i l[i]:=by
 induction n with
 |zero=>exact⟨[],rfl,fun i hi=>by simp at hi⟩
 |succ n ih=>
  obtain⟨l,h1,h2⟩:=ih (fun i hi=>h i (by omega));obtain⟨y,hy⟩:=h n (by omega);refine⟨l++[y],by simp[h1],fun i hi=>?_⟩;rw[List.getElem_append]
  split
  ·rename_i h3;exact h2 i h3
  ·rename_i h3
   have:i=n:=by simp at hi;omega
   subst this;simpa using hy
theorem qru {a:Int} (h:(Lit.int .u64 a).wf=true): ∃n:Nat,a=(n:Int)∧n<18446744073709551616:=by
 simp[Lit.wf,IntKind.min,IntKind.max,IntKind.signed,IntKind.bits] at h;exact⟨a.toNat,by omega,by omega⟩
theorem qqw {a:Int} (h:(Lit.int .i64 a).wf=true): -9223372036854775808≤a∧a≤9223372036854775807:=by
 simp[Lit.wf,IntKind.min,IntKind.max,IntKind.signed,IntKind.bits] at h;omega
theorem qjO:Tryz.prog.cellsOf 26=5:=by kernel_rfl
theorem qlr:Tryz.prog.cellsOf 166=2:=by kernel_rfl
theorem qjD:Tryz.prog.cellsOf 5=1:=by kernel_rfl
theorem qpQ:Tryz.prog.cellsOf 23=1:=by kernel_rfl
theorem qm7:Tryz.prog.cellsOf 24=1:=by kernel_rfl
theorem qp6:Tryz.prog.cellsOf 3=1:=by kernel_rfl
theorem qoU:Tryz.prog.cellsOf 4=1:=by kernel_rfl
section
variable {H:Type} {enc:TypeId×Value→H} {w:World} {base fuel:Nat} {x:DataW H×List MemPlace}
theorem qi4 {t:TypeId} (ht:Tryz.prog.underlying t=some (.int .u8)) {cs:List Value} (h:DataW.trod enc Tryz.prog w base (fun _=>true) true fuel t cs=some x): ∃n:Nat,cs=[.int .u8 (n:Int)]∧n<256:=by
 obtain⟨n,h1,_,h2⟩:=DataW.trod_int ht h;obtain⟨m,rfl,hm⟩:=qpF h2;exact⟨m,h1,hm⟩
theorem qig {v:Value} (h:DataW.trod enc Tryz.prog w base (fun _=>true) true fuel 23 [v]=some x): ∃(qs:List (Nat×Nat)) (a:Option Addr) (c:Nat),v= .slice a qs.length c∧qnZ w (.slice a qs.length c) qs∧qs.length≤c∧c≤maxLen:=by
 rcases DataW.trod_slice Tryz.underlying23 h with ⟨hcs,_⟩|⟨a,l,c,elems,rest,n,_,hcs,_,_,hl,hm,hlen,hel,_,_⟩
 ·simp at hcs;subst hcs;exact⟨[],none,0,rfl,.inl ⟨none,0,rfl,rfl⟩,Nat.le_refl _,by unfold maxLen;omega⟩
 ·simp at hcs;subst hcs
  by_cases h0:l=0
  ·subst h0;exact⟨[],some a,c,rfl,.inl ⟨some a,c,rfl,rfl⟩,hl,hm⟩
  ·have key: ∀i,i<l→ ∃p:Nat×Nat,(w.cell? (a.add (i*2))=some (.int .u8 (p.1:Int))∧w.cell? ((a.add (i*2)).add 1)=some (.int .u8 (p.2:Int)))∧p.1<256∧p.2<256:=by
    intro i hi;have h1:=hel i hi;rw[qlr,List.getElem?_eq_getElem (by omega),Option.bind_eq_some_iff] at h1;obtain⟨cs,e1,e2⟩:=h1;obtain⟨_,hcl,hat⟩:=World.cells?_some e1;obtain⟨xs,n',_,_,_,hxl,hf⟩:=DataW.trod_struct Tryz.underlying166 e2
    match cs,hcl with
    | [c0,c1],_=>
      have f0:DataW.trod enc Tryz.prog w base (fun _=>true) true n' 5 ([c0,c1].take (Tryz.prog.cellsOf 5))=xs[0]?:=hf 0 _ rfl;have f1:DataW.trod enc Tryz.prog w base (fun _=>true) true n' 5 ([c1].take (Tryz.prog.cellsOf 5))=xs[1]?:=hf 1 _ rfl;have hx:xs.length=2:=hxl;rw[qjD,List.getElem?_eq_getElem (by omega)] at f0 f1;obtain⟨p,g0,hp⟩:=qi4 Tryz.underlying5 f0;obtain⟨q,g1,hq⟩:=qi4 Tryz.underlying5 f1;simp at g0 g1;subst g0 g1;have t0:=hat 0 (by omega);have t1:=hat 1 (by omega);refine⟨(p,q),⟨?_,?_⟩,hp,hq⟩
      ·simpa [Addr.add] using t0
      ·simpa using t1
   obtain⟨qs,hr1,hr2⟩:=qci l _ key;obtain⟨_,⟨hs0,_⟩,_⟩:=key 0 (by omega);obtain⟨b,off,spot⟩:=a;have hspot:spot=none:=by simpa [Addr.add] using World.cell?_spot hs0
   subst hspot;refine⟨qs,_,c,by rw[hr1],.inr ⟨b,off,c,by rw[hr1],?_,by omega,hm,fun i hi=>?_⟩,by omega,hm⟩
   ·obtain⟨o,ho,_⟩:=cells_of_cell hs0;have:=(Array.getElem?_eq_some_iff.1 ho).1;simpa [Addr.add] using this
   ·have:=hr2 i hi;rw[show(⟨b,off,none⟩:Addr).add (i*2)=⟨b,off+i*2,none⟩ by simp[Addr.add],show(⟨b,off+i*2,none⟩:Addr).add 1=⟨b,off+i*2+1,none⟩ by simp[Addr.add]] at this;rw[List.getD_eq_getElem?_getD,List.getElem?_eq_getElem hi];exact this
theorem qeu {cs:List Value} (h:DataW.trod enc Tryz.prog w base (fun _=>true) true fuel 26 cs=some x): ∃(s:Sm) (lv:Value),cs=[.int .u8 (s.nm:Int),lv,.int .u64 (s.bits:Int),.int .i64 s.tm,.bool s.td]∧SmOk s∧SmV w lv s:=by
 obtain⟨xs,n',_,_,hcl,hxl,hf⟩:=DataW.trod_struct Tryz.underlying26 h;rw[qjO] at hcl
 match cs,hcl with
 | [c0,c1,c2,c3,c4],_=>
   have f0:DataW.trod enc Tryz.prog w base (fun _=>true) true n' 5 ([c0,c1,c2,c3,c4].take (Tryz.prog.cellsOf 5))=xs[0]?:=hf 0 _ rfl;have f1:DataW.trod enc Tryz.prog w base (fun _=>true) true n' 23 ([c1,c2,c3,c4].take (Tryz.prog.cellsOf 23))=xs[1]?:=hf 1 _ rfl;have f2:DataW.trod enc Tryz.prog w base (fun _=>true) true n' 24 ([c2,c3,c4].take (Tryz.prog.cellsOf 24))=xs[2]?:=hf 2 _ rfl;have f3:DataW.trod enc Tryz.prog w base (fun _=>true) true n' 3 ([c3,c4].take (Tryz.prog.cellsOf 3))=xs[3]?:=hf 3 _ rfl;have f4:DataW.trod enc Tryz.prog w base (fun _=>true) true n' 4 ([c4].take (Tryz.prog.cellsOf 4))=xs[4]?:=hf 4 _ rfl;have hx:xs.length=5:=hxl;rw[qjD,List.getElem?_eq_getElem (by omega)] at f0;rw[qpQ,List.getElem?_eq_getElem (by omega)] at f1;rw[qm7,List.getElem?_eq_getElem (by omega)] at f2;rw[qp6,List.getElem?_eq_getElem (by omega)] at f3;rw[qoU,List.getElem?_eq_getElem (by omega)] at f4;obtain⟨p,g0,hp⟩:=qi4 Tryz.underlying5 f0;obtain⟨qs,a,c,g1,hq,hqc,hcm⟩:=qig (by simpa using f1);obtain⟨b,g2,_,hb⟩:=DataW.trod_int Tryz.underlying24 f2;obtain⟨t,g3,_,ht⟩:=DataW.trod_int Tryz.underlying3 f3;obtain⟨d,g4,_⟩:=DataW.trod_bool Tryz.underlying4 f4;obtain⟨bn,rfl,hbn⟩:=qru hb;have hti:=qqw ht;simp at g0 g2 g3 g4;subst g0 g1 g2 g3 g4;refine⟨⟨p,bn,t,d,qs⟩,_,rfl,⟨hp,hbn,hti.1,hti.2⟩,a,c,rfl,hq,hqc,?_⟩;have:=hcm;unfold maxLen at this;show qs.length≤_;omega
theorem open_smalls {a:Option Addr} {len cap:Nat} {d:DataW H} {p:List MemPlace} (h:DataW.Trod enc Tryz.prog w base (fun _=>true) true 22 (.slice a len cap) d p): ∃z:List Sm,z.length=len∧SmRow w (.slice a z.length cap) z∧len≤cap∧len≤maxLen:=by
 obtain⟨fuel,hf⟩:=h;rcases DataW.trod_slice Tryz.underlying22 hf with ⟨hcs,_⟩|⟨x,l,c,elems,rest,n,_,hcs,_,_,hl,hm,hlen,hel,_,_⟩
 ·simp[Value.cells] at hcs;obtain⟨rfl,rfl,rfl⟩:=hcs;exact⟨[],rfl,.inl ⟨_,_,rfl,rfl⟩,Nat.le_refl _,by unfold maxLen;omega⟩
 ·simp[Value.cells] at hcs;obtain⟨rfl,rfl,rfl⟩:=hcs
  by_cases h0:len=0
  ·subst h0;exact⟨[],rfl,.inl ⟨_,_,rfl,rfl⟩,by omega,by omega⟩
  ·have key: ∀i,i<len→ ∃s:Sm,SmOk s∧ ∃lv,(w.cell? (x.add (i*5))=some (.int .u8 (s.nm:Int))∧w.cell? ((x.add (i*5)).add 1)=some lv∧w.cell? ((x.add (i*5)).add 2)=some (.int .u64 (s.bits:Int))∧w.cell? ((x.add (i*5)).add 3)=some (.int .i64 s.tm)∧w.cell? ((x.add (i*5)).add 4)=some (.bool s.td))∧SmV w lv s:=by
    intro i hi;have h1:=hel i hi;rw[qjO,List.getElem?_eq_getElem (by omega),Option.bind_eq_some_iff] at h1;obtain⟨cs,e1,e2⟩:=h1;obtain⟨_,hcl,hat⟩:=World.cells?_some e1;obtain⟨s,lv,rfl,hok,hsv⟩:=qeu e2;have t0:=hat 0 (by omega);have t1:=hat 1 (by omega);have t2:=hat 2 (by omega);have t3:=hat 3 (by omega);have t4:=hat 4 (by omega);refine⟨s,hok,lv,⟨?_,?_,?_,?_,?_⟩,hsv⟩
    ·simpa [Addr.add] using t0
    ·simpa using t1
    ·simpa using t2
    ·simpa using t3
    ·simpa using t4
   obtain⟨z,hr1,hr2⟩:=qci len _ key;obtain⟨_,_,_,⟨hs0,_⟩,_⟩:=key 0 (by omega);obtain⟨b,off,spot⟩:=x;have hspot:spot=none:=by simpa [Addr.add] using World.cell?_spot hs0
   subst hspot;refine⟨z,hr1,.inr ⟨b,off,cap,rfl,?_,by omega,hm,fun i hi=>?_⟩,hl,by omega⟩
   ·obtain⟨o,ho,_⟩:=cells_of_cell hs0;have:=(Array.getElem?_eq_some_iff.1 ho).1;simpa [Addr.add] using this
   ·have:=hr2 i hi;rw[show(⟨b,off,none⟩:Addr).add (i*5)=⟨b,off+i*5,none⟩ by simp[Addr.add]] at this;simp only[Addr.add] at this;rw[List.getD_eq_getElem?_getD,List.getElem?_eq_getElem hi];exact this
end
theorem open_small {H:Type} {enc:TypeId×Value→H} {w w2:World} {base base2:Nat} {r:Reach} {v:Value} {d:DataW H} {p:List MemPlace}
 (hv:Value.okWide Tryz.prog w2 r base2 26 v) (h:DataW.Trod enc Tryz.prog w base (fun _=>true) true 26 v d p):
 ∃(s:Sm) (lv:Value),v= .agg #[.int .u8 (s.nm:Int),lv,.int .u64 (s.bits:Int),.int .i64 s.tm,.bool s.td]∧SmOk s∧SmV w lv s:=by
 have hv': ∃cs,v= .agg cs∧cs.size=Tryz.prog.cellsOf 26:=by
  simp only[Value.okWide,Tryz.underlying26] at hv;obtain⟨cs,h1,h2,_⟩:=hv;exact⟨cs,h1,h2⟩
 obtain⟨cs,rfl,hs⟩:=hv';obtain⟨fuel,hf⟩:=h;obtain⟨s,lv,h1,h2,h3⟩:=qeu (by simpa [Value.cells] using hf);refine⟨s,lv,?_,h2,h3⟩
 congr 1
 exact Array.toList_inj.1 h1
end Go.Proofs.YtdeimnnpcfncpaaGreatDoor.X
end
