/- Parts of the proof: V4 T5 T6 T9a. -/
import Derived.Test.YtdeimnnpcfncpaaGreatDoorCY45
set_option linter.unusedVariables false
set_option linter.unusedSimpArgs false
set_option maxRecDepth 100000
set_option maxHeartbeats 64000000
namespace Go.Proofs.YtdeimnnpcfncpaaGreatDoor.X
open Go Go.RowKit
theorem qnY (c:List UInt8): ∀ls:List Lb,(ls.map Prod.fst).Nodup→ ∀x∈ls.eraseP (fun x=>x.1==c),x.1≠c
 | [],_,x,hx=>by cases hx
 |y::t,h,x,hx=>by
  obtain⟨h1,h2⟩:=List.nodup_cons.1 (by simpa using h:(y.1::t.map Prod.fst).Nodup)
  by_cases hy:(y.1==c)=true
  ·rw[List.eraseP_cons_of_pos (p:=fun x:Lb=>x.1==c) hy] at hx;rw[←eq_of_beq hy];intro e;exact h1 (List.mem_map.2 ⟨x,hx,e⟩)
  ·rw[List.eraseP_cons_of_neg (p:=fun x:Lb=>x.1==c) hy] at hx;rcases List.mem_cons.1 hx with rfl|hx
   ·intro e;exact hy (by rw[e];exact beq_self_eq_true _)
   ·exact qnY c t h2 x hx
def MdL (ls:List Lb):Prop:=(ls.map Prod.fst).Nodup∧ ∀x∈ls,x.1∈qbz∧x.2∈qdq
theorem qsd {ls:List Lb} {y:Lb} (h:MdL ls) (hy:y.1∈qbz∧y.2∈qdq):MdL (mdS ls y):=by
 unfold mdS;refine⟨?_,fun x hx=>?_⟩
 ·rw[List.map_append,List.nodup_append];refine⟨List.Nodup.sublist ((List.eraseP_sublist ..).map _) h.1,by simp,?_⟩;intro a ha b hb;obtain⟨x,hx,rfl⟩:=List.mem_map.1 ha;simp at hb;rw[hb];exact qnY y.1 ls h.1 x hx
 ·rcases List.mem_append.1 hx with hx|hx
  ·exact h.2 x (List.mem_of_mem_eraseP hx)
  ·rw[List.mem_singleton] at hx;subst hx;exact hy
theorem qdz {l:List (List UInt8)} {i:Nat} (h:i<l.length):l.getD i []∈l:=by
 rw[List.getD_eq_getElem?_getD,List.getElem?_eq_getElem h,Option.getD_some];exact List.getElem_mem h
theorem qqO (q:Nat×Nat):(mkL q).1∈qbz∧(mkL q).2∈qdq:=
 ⟨qdz (by show _<16;exact Nat.mod_lt _ (by decide)),qdz (by show _<8;exact Nat.mod_lt _ (by decide))⟩
theorem qhR: ∀(qs:List (Nat×Nat)) (ls:List Lb),MdL ls→MdL (qs.foldl (fun out q=>mdS out (mkL q)) ls)
 | [],_,h=>h
 |q::t,ls,h=>qhR t _ (qsd h (qqO q))
theorem qoc (qs:List (Nat×Nat)):MdL (mdF qs):=qhR _ _ ⟨by simp,by simp⟩
theorem qkC {α:Type} [BEq α] [LawfulBEq α]: ∀(l m:List α),l.Nodup→(∀x∈l,x∈m)→l.length≤m.length
 | [],_,_,_=>Nat.zero_le _
 |x::t,m,h,hs=>by
  obtain⟨h1,h2⟩:=List.nodup_cons.1 h;have hx:=hs x (List.mem_cons_self ..);have:=qkC t (m.erase x) h2 (fun y hy=>(List.mem_erase_of_ne (fun e=>h1 (by rw[←e];exact hy))).2 (hs y (List.mem_cons_of_mem _ hy)));rw[List.length_erase_of_mem hx] at this;have:=List.length_pos_of_mem hx;simp only[List.length_cons];omega
theorem qoP:(qbz.all fun n=>qdq.all fun v=>qb0 (n,v)==0)=true:=by decide+kernel
theorem qq9 {x:Lb} (h:x.1∈qbz∧x.2∈qdq):qb0 x=0:=by
 have:=List.all_eq_true.1 (List.all_eq_true.1 qoP x.1 h.1) x.2 h.2;simpa using this
theorem qh3: ∀ls:List Lb,(∀x∈ls,qb0 x=0)→qaO ls=0
 | [],_=>rfl
 |x::t,h=>by
  unfold qaO;rw[if_pos (h x (List.mem_cons_self ..))];exact qh3 t (fun y hy=>h y (List.mem_cons_of_mem _ hy))
theorem qfI:(qbz.all fun n=>decide (n.length≤19))=true:=by decide+kernel
theorem qhy:(qdq.all fun n=>decide (n.length≤3))=true:=by decide+kernel
theorem qrD (qs:List (Nat×Nat)): ∃r,ofF (mdF qs)=(0,r)∧qaF r=true∧r.length≤16∧(∀x∈r,x.1.length≤19∧x.2.length≤10):=by
 obtain⟨h1,h2⟩:=qoc qs;have hf:=qh3 (mdF qs) (fun x hx=>qq9 (h2 x hx));have ht:=(qa6 _).2 h1
 have hl:(mdF qs).length≤16:=by
  have:=qkC ((mdF qs).map Prod.fst) qbz h1 (fun x hx=>by obtain⟨y,hy,rfl⟩:=List.mem_map.1 hx;exact(h2 y hy).1);rw[List.length_map] at this;exact this
 have hsl: ∀ls:List Lb,(srt ls).length=ls.length:=by
  intro ls
  induction ls with
  |nil=>rfl
  |cons x t ih=>
   have hi: ∀(x:Lb) (l:List Lb),(qkS x l).length=l.length+1:=by
    intro x l
    induction l with
    |nil=>rfl
    |cons y t ih=>unfold qkS;split<;>simp[ih]
   show(qkS x (srt t)).length=_;rw[hi,ih];rfl
 have hle:((srt (mdF qs)).filter (fun x=>!emp x)).length≤16:=by
  have:=List.length_filter_le (fun x=>!emp x) (srt (mdF qs));rw[hsl] at this;omega
 have e:ofF (mdF qs)=(0,(srt (mdF qs)).filter (fun x=>!emp x)):=by
  unfold ofF;rw[if_pos hf,ht,if_neg (by decide),if_neg (by omega)]
 obtain⟨r1,r2⟩:=qjj e;refine⟨_,e,r1,hle,fun x hx=>?_⟩;have hx2:=h2 x ((r2 x).1 hx).1;have a1:=List.all_eq_true.1 qfI x.1 hx2.1;have a2:=List.all_eq_true.1 qhy x.2 hx2.2;simp at a1 a2;exact⟨a1,by omega⟩
def upL:List (List UInt8):=[[117,112],[97],[104,116,116,112,95,116,111,116,97,108],[97,58,98],[120],[108,101],[95],[122,57]]
theorem qsb:(upL.all fun v=>qan 58 v&&qbi v&&decide (v.length≤10))=true:=by decide+kernel
theorem qiB {v:List UInt8} (h:v∈upL):qan 58 v=true∧qbi v=true∧v.length≤10:=by
 have:=List.all_eq_true.1 qsb v h;simp at this;exact⟨this.1.1,this.1.2,this.2⟩
theorem N2s (w:World) (x y:Obj):((w.alloc x).alloc y).heap.size=w.heap.size+2:=by show(Array.push (Array.push _ _) _).size=_;rw[Array.size_push,Array.size_push]
theorem N26 (w:World) (x y:Obj):((w.alloc x).alloc y).heap[w.heap.size]?=some x:=by
 rw[show((w.alloc x).alloc y).heap=(w.heap.push x).push y from rfl,Array.getElem?_push_lt (by rw[Array.size_push];omega)];rw[Array.getElem_push_eq]
theorem N27 (w:World) (x y:Obj):((w.alloc x).alloc y).heap[w.heap.size+1]?=some y:=by
 rw[show((w.alloc x).alloc y).heap=(w.heap.push x).push y from rfl,show w.heap.size+1=(w.heap.push x).size by rw[Array.size_push],Array.getElem?_push_size]
theorem qr0 {v:List UInt8} (h:v∈upL):qb0 (qag,v)=0:=by
 obtain⟨_,h2,_⟩:=qiB h;unfold qb0;rw[if_pos (show qan 95 qag=true by decide),if_pos h2]
theorem qoK (qs:List (Nat×Nat)): ∀x∈mdF qs,x.1.length≤19∧x.2.length≤10:=by
 intro x hx;obtain⟨h1,h2⟩:=(qoc qs).2 x hx;have a1:=List.all_eq_true.1 qfI _ h1;have a2:=List.all_eq_true.1 qhy _ h2;simp only[decide_eq_true_eq] at a1 a2;exact⟨a1,by omega⟩
def qgE (w:World) (e:Ending) (w':World):Prop:=
 Below w.heap.size w w'∧ ∃v s,e= .returned (.tuple #[v,.bool true])∧MdS s∧qte w.heap.size w' v s
def qkV (D:Nat) (lv:Value) (b:Int) (st:Bool) (t:Int) (W:World):World:=(((W.setCell ⟨D,0,none⟩ lv).setCell ⟨D,1,none⟩ (.int .u64 b)).setCell ⟨D,2,none⟩ (.bool st)).setCell ⟨D,3,none⟩ (.int .i64 t)
theorem qpv {w W:World} {lv lv0:Value} {b0 t0 b t:Int} {st0 st:Bool} {r:List Lb} (X:SB (w.heap.size+1) lv0 b0 st0 t0 W) (own:W.ownsRow (w.heap.size+2) 44 2 lv r.length (qaa r)) (BW:Below w.heap.size w W):
 SB (w.heap.size+1) lv b st t (qkV (w.heap.size+1) lv b st t W)∧(qkV (w.heap.size+1) lv b st t W).ownsRow (w.heap.size+2) 44 2 lv r.length (qaa r)∧Below w.heap.size w (qkV (w.heap.size+1) lv b st t W):=by
 refine⟨(((X.set0 lv).set1 b).set2 st).set3 t,?_,?_⟩
 ·exact qam (qam (qam (qam own (qai _ _ 0 _) (by omega)) (qai _ _ 1 _) (by omega)) (qai _ _ 2 _) (by omega)) (qai _ _ 3 _) (by omega)
 ·exact(((BW.setCell (p:=⟨w.heap.size+1,0,none⟩) (by show w.heap.size≤w.heap.size+1;omega) _).setCell (p:=⟨w.heap.size+1,1,none⟩) (by show w.heap.size≤w.heap.size+1;omega) _).setCell (p:=⟨w.heap.size+1,2,none⟩) (by show w.heap.size≤w.heap.size+1;omega) _).setCell (p:=⟨w.heap.size+1,3,none⟩) (by show w.heap.size≤w.heap.size+1;omega) _
theorem qdx {w W W':World} {lv lv0:Value} {b0 t0:Int} {st0:Bool} {s:Smp} (hs:MdS s) (X:SB (w.heap.size+1) lv0 b0 st0 t0 W) (own:W.ownsRow (w.heap.size+2) 44 2 lv s.ls.length (qaa s.ls)) (BW:Below w.heap.size w W)
 (hb:Below (qkV (w.heap.size+1) lv s.bits s.st s.t W).heap.size (qkV (w.heap.size+1) lv s.bits s.st s.t W) W'):
 SB (w.heap.size+1) lv s.bits s.st s.t W'∧qgE w (.returned (.tuple #[.agg #[lv,.int .u64 (s.bits:Int),.bool s.st,.int .i64 s.t],.bool true])) W':=by
 obtain⟨h1,h2,h3⟩:=qpv (b:=s.bits) (t:=s.t) (st:=s.st) X own BW;exact⟨h1.on hb,h3.trans (hb.mono h3.size),_,s,rfl,hs,lv,rfl,qaQ (qah h2 hb) (by omega)⟩
theorem qjg:Go.Proofs.YtdeimnnpcfncpaaGreatDoor.kindN 4609434218613702656≠4:=by decide
theorem qnG (nm bits:Nat) (tm:Int) (td:Bool) (qs:List (Nat×Nat)) (a:Option Addr) (n c:Nat) (h1:nm<256) (h2:bits<18446744073709551616) (h3: -9223372036854775808≤tm) (h4:tm≤9223372036854775807) (w:World) (hr:qph w (.slice a n c) qs) (hn:n=qs.length) (hl:n≤9223372036854775807) (hcn:n≤c):
 Calls Tryz.prog 15 #[.agg #[.int .u8 (nm:Int),.slice a n c,.int .u64 (bits:Int),.int .i64 tm,.bool td]] w (qgE w):=by
 have hrh:=Lh hr;have hnh:=Lh hn;clear hr hn;go_enter Tryz.func15,Tryz.ntmps15;go_wp2_with fail;refine(qiS qs _ a n c (hrh.out.on (((Below.refl _ w).alloc (Nat.le_refl _) _).alloc (by show w.heap.size≤(Array.push _ _).size;rw[Array.size_push];omega) _)) hnh.out hl hcn).mono ?_;rintro e w1 ⟨v1,rfl,own1,B1,hl40,hne⟩;obtain⟨r,hof,hright,hr16,hrl⟩:=qrD qs;have c2:=Lh (qlt v1 (mdF qs) (by omega) (fun x hx=>by have:=qoK qs x hx;omega) w1 (qaN.of_owned own1) hne);obtain⟨a1,n1,rfl⟩:=qae own1;have B1h:=Lh B1;clear own1 B1;go_wp2_with fail;refine c2.out.mono ?_;unfold qqQ;rw[hof];rintro e w2 ⟨v2,rfl,own2,B2⟩;have B2h:=Lh (B1h.out.trans (B2.mono B1h.out.size));have own2h:=Lh own2;obtain⟨a2,n2,rfl⟩:=qae own2;have hs0:w.heap.size+2≤w2.heap.size:=by have:=B2h.out.size;rw[N2s] at this;exact this
 have hD0:w.heap.size<w2.heap.size:=by omega
 have hD1:w.heap.size+1<w2.heap.size:=by omega
 have m0:w2.cell? ⟨w.heap.size,0,none⟩=some (.int .u8 (nm:Int)):=(B2h.out.cell (p:=⟨w.heap.size,0,none⟩) (by rw[N2s];exact Nat.lt_succ_of_lt (Nat.lt_succ_self _))).trans (by rw[Lib.cell_of_heap (N26 w _ _)];rfl);clear own2 B2 c2 B1h hof
 have hc17:Hid (∀(ve:Value) (y:List UInt8) (W:World),y∈upL→Below w2.heap.size w2 W→qaN W ve [(qag,y)]→Calls Tryz.prog 17 #[.slice a2 r.length n2,ve] W (qkD r [(qag,y)] W)):=Lh (by
  intro ve y W hy hb hv;obtain⟨u1,u2,u3⟩:=qiB hy
  exact qrd (.slice a2 r.length n2) ve r [(qag,y)] hright (fun x hx=>by rw[List.mem_singleton] at hx;subst hx;exact qr0 hy) (by simp;omega) (fun x hx=>by have:=hrl x hx;omega) (fun x hx=>by rw[List.mem_singleton] at hx;subst hx;exact⟨by show qag.length≤_;decide,by show y.length≤_;omega⟩) W ((qaN.of_owned own2h.out).on hb) hv)
 obtain⟨m8,hm8⟩: ∃m,Hid (nm%8=m):=⟨_,Lh rfl⟩;have l8:m8<8:=by have:=hm8.out;omega
 have e8:((nm:Int)%8)=(m8:Int):=by have:=hm8.out;omega
 have d8:decide (m8<8)=true:=dT l8;have d8':decide ((m8:Int)<8)=true:=dT (by omega);obtain⟨y,hy⟩: ∃y,upL.getD m8 []=y:=⟨_,rfl⟩;have hyu:Hid (y∈upL):=Lh (by rw[←hy];exact qdz l8)
 have yN:(w2.alloc (.cells #[.string ⟨#[117,112]⟩,.string ⟨#[97]⟩,.string ⟨#[104,116,116,112,95,116,111,116,97,108]⟩,.string ⟨#[97,58,98]⟩,.string ⟨#[120]⟩,.string ⟨#[108,101]⟩,.string ⟨#[95]⟩,.string ⟨#[122,57]⟩] 9)).cell? ⟨w2.heap.size,m8,none⟩=some (.string (BS y)):=by
  rw[Lib.cell_of_heap (World.alloc_heap_new _ _),←hy];rcases(show m8=0∨m8=1∨m8=2∨m8=3∨m8=4∨m8=5∨m8=6∨m8=7 by omega)with rfl|rfl|rfl|rfl|rfl|rfl|rfl|rfl<;>rfl
 clear hy;have X0:Hid (w2.heap[w.heap.size]?=some (.cells #[.int .u8 (nm:Int),.slice a n c,.int .u64 (bits:Int),.int .i64 tm,.bool td] 26 (0,0))):=Lh ((B2h.out.block _ (by rw[N2s];omega)).trans (N26 w _ _));have X1:Hid (SB (w.heap.size+1) (.slice none 0 0) 0 false 0 w2):=Lh ((B2h.out.block _ (by rw[N2s];omega)).trans (N27 w _ _));have BW:Hid (Below w.heap.size w w2):=Lh ((((Below.refl _ w).alloc (Nat.le_refl _) _).alloc (by show w.heap.size≤(Array.push _ _).size;rw[Array.size_push];omega) _).trans (B2h.out.mono (by rw[N2s];omega)));go_wp2_with fail;have R1:=qaN.of_owned (row_one (w2.alloc (.cells #[.string ⟨#[117,112]⟩,.string ⟨#[97]⟩,.string ⟨#[104,116,116,112,95,116,111,116,97,108]⟩,.string ⟨#[97,58,98]⟩,.string ⟨#[120]⟩,.string ⟨#[108,101]⟩,.string ⟨#[95]⟩,.string ⟨#[122,57]⟩] 9)) y);rw[World.size_alloc] at R1;have Ba:Below w2.heap.size w2 ((w2.alloc (.cells #[.string ⟨#[117,112]⟩,.string ⟨#[97]⟩,.string ⟨#[104,116,116,112,95,116,111,116,97,108]⟩,.string ⟨#[97,58,98]⟩,.string ⟨#[120]⟩,.string ⟨#[108,101]⟩,.string ⟨#[95]⟩,.string ⟨#[122,57]⟩] 9)).alloc (.cells #[.string (BS qag),.string (BS y)] 44)):=((Below.refl _ _).alloc (Nat.le_refl _) _).alloc (by rw[World.size_alloc];omega) _;refine(hc17.out _ y _ hyu.out Ba R1).mono ?_;rintro e w4 ⟨v4,r2,rfl,own4,B4,hset⟩;have B5:Below w2.heap.size w2 w4:=Ba.trans (B4.mono Ba.size);obtain⟨a4,n4,rfl⟩:=qae own4;replace X0:=Lh ((B5.block _ hD0).trans X0.out);replace X1:=Lh (X1.out.on B5);replace BW:=Lh (BW.out.trans (B5.mono BW.out.size));have O4:=Lh (qaQ own4 (show w.heap.size+2≤_ by have:=Ba.size;omega));have hseth:=Lh hset;have hD0':w.heap.size<w4.heap.size:=Nat.lt_of_lt_of_le hD0 B5.size;have hD1':w.heap.size+1<w4.heap.size:=Nat.lt_of_lt_of_le hD1 B5.size;clear own4 B4 hset Ba R1 B5 yN hc17 own2h B2h m0 hne hs0 hD0 hD1 e8 d8 d8' l8 hm8;have m2:w4.cell? ⟨w.heap.size,2,none⟩=some (.int .u64 (bits:Int)):=by rw[Lib.cell_of_heap X0.out];rfl
 have m3:w4.cell? ⟨w.heap.size,3,none⟩=some (.int .i64 tm):=by rw[Lib.cell_of_heap X0.out];rfl
 have m4:w4.cell? ⟨w.heap.size,4,none⟩=some (.bool td):=by rw[Lib.cell_of_heap X0.out];rfl
 have f1:=X1.out.c0;have f2:=X1.out.c1;have f3:=X1.out.c2;have f4:=X1.out.c3;have z0:=X1.out.fz 0;have z1:=X1.out.fz 1;have z2:=X1.out.fz 2;have z3:=X1.out.fz 3;have hk:=Lh (fun W=>qfA bits h2 W);obtain⟨kn,hkn⟩: ∃kn,Hid (Go.Proofs.YtdeimnnpcfncpaaGreatDoor.kindN bits=kn):=⟨_,Lh rfl⟩;rw[hkn.out] at hk;go_wp2_with fail;refine(hk.out _).mono ?_;rintro e w5 ⟨rfl,rfl⟩
 by_cases hnan:kn=4
 ·have t1:((kn:Int)==4)=true:=by simp[hnan]
  cases td with
  |true=>
   obtain⟨p1,p2,p3⟩:=qiB hyu.out;have hs:=qmj (bits:=4609434218613702656) (st:=true) (t:=tm) hright hr16 (fun x hx=>(hrl x hx).2) p1 p2 p3 hseth.out (by decide) qjg (.inl rfl) h3 h4;have FE:=fun W' hb=>qdx (W':=W') hs X1.out O4.out BW.out hb
   replace FE:=Lh FE;clear hs p1 p2 p3;go_upto_region 9 with (fail)
   go_region;go_wp2_with fail;have FF:=Lh (FE.out _ (((Below.refl _ _).alloc (Nat.le_refl _) (.cells #[.slice a4 r2.length n4,.int .u64 ((4609434218613702656:Nat):Int),.bool true,.int .i64 tm] 34)).drew));refine bodyPost_ret (qaq rfl _ _ _ _ _ _ _ rfl FF.out.1) rfl ?_;exact FF.out.2
  |false=>
   obtain⟨p1,p2,p3⟩:=qiB hyu.out;have hs:=qmj (bits:=4609434218613702656) (st:=false) (t:=0) hright hr16 (fun x hx=>(hrl x hx).2) p1 p2 p3 hseth.out (by decide) qjg (.inr rfl) (by decide) (by decide);have FE:=fun W' hb=>qdx (W':=W') hs X1.out O4.out BW.out hb
   replace FE:=Lh FE;clear hs p1 p2 p3;go_wp2_with fail;have FF:=Lh (FE.out _ (((Below.refl _ _).alloc (Nat.le_refl _) (.cells #[.slice a4 r2.length n4,.int .u64 ((4609434218613702656:Nat):Int),.bool false,.int .i64 0] 34))));refine bodyPost_ret (qaq rfl _ _ _ _ _ _ _ rfl FF.out.1) rfl ?_;exact FF.out.2
 ·have t1:((kn:Int)==4)=false:=by simp;omega
  cases td with
  |true=>
   obtain⟨p1,p2,p3⟩:=qiB hyu.out;have hs:=qmj (bits:=bits) (st:=true) (t:=tm) hright hr16 (fun x hx=>(hrl x hx).2) p1 p2 p3 hseth.out h2 (by rw[hkn.out];exact hnan) (.inl rfl) h3 h4;have FE:=fun W' hb=>qdx (W':=W') hs X1.out O4.out BW.out hb
   replace FE:=Lh FE;clear hs p1 p2 p3;go_upto_region 9 with (fail)
   go_region;go_wp2_with fail;have FF:=Lh (FE.out _ (((Below.refl _ _).alloc (Nat.le_refl _) (.cells #[.slice a4 r2.length n4,.int .u64 ((bits:Nat):Int),.bool true,.int .i64 tm] 34)).drew));refine bodyPost_ret (qaq rfl _ _ _ _ _ _ _ rfl FF.out.1) rfl ?_;exact FF.out.2
  |false=>
   obtain⟨p1,p2,p3⟩:=qiB hyu.out;have hs:=qmj (bits:=bits) (st:=false) (t:=0) hright hr16 (fun x hx=>(hrl x hx).2) p1 p2 p3 hseth.out h2 (by rw[hkn.out];exact hnan) (.inr rfl) (by decide) (by decide);have FE:=fun W' hb=>qdx (W':=W') hs X1.out O4.out BW.out hb
   replace FE:=Lh FE;clear hs p1 p2 p3;go_wp2_with fail;have FF:=Lh (FE.out _ (((Below.refl _ _).alloc (Nat.le_refl _) (.cells #[.slice a4 r2.length n4,.int .u64 ((bits:Nat):Int),.bool false,.int .i64 0] 34))));refine bodyPost_ret (qaq rfl _ _ _ _ _ _ _ rfl FF.out.1) rfl ?_;exact FF.out.2
structure Sm where
 nm:Nat
 bits:Nat
 tm:Int
 td:Bool
 qs:List (Nat×Nat)
structure SmOk (x:Sm):Prop where
 h1:x.nm<256
 h2:x.bits<18446744073709551616
 h3: -9223372036854775808≤x.tm
 h4:x.tm≤9223372036854775807
def SmV (W:World) (lv:Value) (x:Sm):Prop:= ∃a c,lv= .slice a x.qs.length c∧qph W (.slice a x.qs.length c) x.qs∧x.qs.length≤c∧x.qs.length≤9223372036854775807
theorem SmV.on {w W:World} {lv:Value} {x:Sm} (h:SmV w lv x) (hb:Below w.heap.size w W):SmV W lv x:=by
 obtain⟨a,c,h1,h2,h3,h4⟩:=h;exact⟨a,c,h1,h2.on hb,h3,h4⟩
theorem qpX (x:Sm) (hx:SmOk x) (lv:Value) (w:World) (h:SmV w lv x):Calls Tryz.prog 15 #[.agg #[.int .u8 (x.nm:Int),lv,.int .u64 (x.bits:Int),.int .i64 x.tm,.bool x.td]] w (qgE w):=by
 obtain⟨a,c,rfl,h2,h3,h4⟩:=h;exact qnG x.nm x.bits x.tm x.td x.qs a _ c hx.h1 hx.h2 hx.h3 hx.h4 w h2 rfl h4 h3
theorem SOk.sbt {s:Smp} (h:MdS s):SBt s:=⟨⟨by have:=h.n;omega,fun x hx=>by have:=h.v x hx;omega,h.ok.b⟩,h.ok.t0,h.ok.t1⟩
end Go.Proofs.YtdeimnnpcfncpaaGreatDoor.X
