/- Parts of the proof: V0 V3 DR. -/
import Derived.Test.YtdeimnnpcfncpaaGreatDoorCW32
import Derived.Test.YtdeimnnpcfncpaaGreatDoorCW36
set_option linter.unusedVariables false
set_option linter.unusedSimpArgs false
set_option maxRecDepth 100000
set_option maxHeartbeats 64000000
namespace Go.Proofs.YtdeimnnpcfncpaaGreatDoor.X
open Go Go.RowKit
structure SOk (s:Smp):Prop where
 r:qaI s=true
 b:s.bits<18446744073709551616
 t0: -9223372036854775808≤s.t
 t1:s.t≤9223372036854775807
 l:(qdA s).length≤5000
theorem SOk.line {s:Smp} (h:SOk s):qbK s=(0,qdA s):=by
 unfold qbK;have:=h.l;rw[if_pos h.r,if_neg (by omega)]
theorem qfU (bad:Smp) (hb:(qbK bad).1≠0) (r:List Smp): ∀(a:List Smp) (i:Nat) (acc:List UInt8),(∀s∈a,SOk s)→qa5 i acc (a++bad::r)=((qbK bad).1,((i+a.length:Nat):Int),[])
 | [],i,acc,_=>by rw[List.nil_append,qa5,if_neg hb];rfl
 |s::t,i,acc,h=>by
  have hs:=(h s (List.mem_cons_self ..)).line;rw[List.cons_append,qa5,hs,if_pos rfl,qfU bad hb r t (i+1) _ (fun x hx=>h x (List.mem_cons_of_mem _ hx)),List.length_cons];rw[show i+1+t.length=i+(t.length+1) by omega]
abbrev Tf:=List UInt8→Option (List UInt8)
def tf0:Tf:=fun _=>none
def qhh (f:Tf) (x:Lb):Tf:=fun n=>if n=x.1 then (if emp x=true then none else some x.2) else f n
def qb8 (f:Tf) (ls:List Lb):Tf:=ls.foldl qhh f
def qqe (ls eds r:List Lb):Prop:=Inc r∧(∀x:Lb,x∈r↔qb8 (qb8 tf0 ls) eds x.1=some x.2)∧r.length≤ls.length+eds.length
theorem qdW (n:List UInt8): ∀(ls:List Lb) (f:Tf),(∀x∈ls,x.1≠n)→qb8 f ls n=f n
 | [],_,_=>rfl
 |x::t,f,h=>by
  show qb8 (qhh f x) t n=_;rw[qdW n t _ (fun y hy=>h y (List.mem_cons_of_mem _ hy))];unfold qhh;rw[if_neg (fun e=>h x (List.mem_cons_self ..) e.symm)]
theorem qf3 (ls:List Lb) (hi:Inc ls) (he: ∀x∈ls,emp x=false): ∀(f:Tf) (x:Lb),x∈ls→qb8 f ls x.1=some x.2:=by
 induction ls with
 |nil=>intro f x hx;cases hx
 |cons y t ih=>
  intro f x hx;obtain⟨h1,h2⟩:=List.pairwise_cons.1 hi;show qb8 (qhh f y) t x.1=_;rcases List.mem_cons.1 hx with rfl|hx
  ·rw[qdW x.1 t _ (fun z hz e=>by have:=h1 z hz;rw[e] at this;exact qch _ this)];unfold qhh;rw[if_pos rfl,if_neg (by rw[he x (List.mem_cons_self ..)];decide)]
  ·exact ih h2 (fun z hz=>he z (List.mem_cons_of_mem _ hz)) _ x hx
theorem qjz (ls:List Lb) (hi:Inc ls) (he: ∀x∈ls,emp x=false) (x:Lb):qb8 tf0 ls x.1=some x.2↔x∈ls:=by
 constructor
 ·intro h
  by_cases hx: ∃y∈ls,y.1=x.1
  ·obtain⟨y,hy,e⟩:=hx;have:=qf3 ls hi he tf0 y hy;rw[e,h] at this;have e2:x=y:=Prod.ext e.symm (Option.some.inj this);rw[e2];exact hy
  ·rw[qdW x.1 ls tf0 (fun y hy e=>hx ⟨y,hy,e⟩)] at h;cases h
 ·exact qf3 ls hi he tf0 x
theorem qez {ls r:List Lb} {n v:List UInt8} (hr:qav ls=true) (hv:v≠[]) (h:qqe ls [(n,v)] r):Inc r∧(∀x,x∈r↔x=(n,v)∨(x∈ls∧x.1≠n))∧r.length≤ls.length+1:=by
 obtain⟨q1,q2,q3⟩:=(qaW _).1 hr;obtain⟨h1,h2,h3⟩:=h;refine⟨h1,fun x=>?_,h3⟩;rw[h2 x];show qhh (qb8 tf0 ls) (n,v) x.1=some x.2↔_;unfold qhh
 have hem:emp (n,v)=false:=by unfold emp;cases v with
  |nil=>exact absurd rfl hv
  |cons c t=>rfl
 by_cases hx:x.1=n
 ·rw[if_pos hx,if_neg (by rw[hem];decide)];constructor
  ·intro e;exact .inl (Prod.ext hx (Option.some.inj e).symm)
  ·rintro(e|⟨_,e⟩)
   ·rw[e]
   ·exact absurd hx e
 ·rw[if_neg hx,qjz ls q3 (fun y hy=>(q2 y hy).2)];constructor
  ·exact fun e=> .inr ⟨e,hx⟩
  ·rintro(e|⟨e,_⟩)
   ·rw[e] at hx;exact absurd rfl hx
   ·exact e
theorem set_right {ls r:List Lb} {n v:List UInt8} (hr:qav ls=true) (hl:ls.length≤60) (hv:v≠[]) (h1:qaj 95 n=true) (h2:qbn v=true) (h:qqe ls [(n,v)] r):qav r=true∧qaV r n=v:=by
 obtain⟨q1,q2,q3⟩:=(qaW _).1 hr;obtain⟨s1,s2,s3⟩:=qez hr hv h;refine⟨(qaW _).2 ⟨by omega,fun x hx=>?_,s1⟩,?_⟩
 ·rcases(s2 x).1 hx with rfl|⟨hx,_⟩
  ·exact⟨ok_one h1 h2,by unfold emp;cases v with
    |nil=>exact absurd rfl hv
    |cons c t=>rfl⟩
  ·exact q2 x hx
 ·exact qkk s1 ((s2 (n,v)).2 (.inl rfl))
structure MdS (s:Smp):Prop where
 ok:SOk s
 n:s.ls.length≤41
 v: ∀x∈s.ls,x.1.length≤128∧x.2.length≤10
theorem qkX {ls r:List Lb} {v:List UInt8} {bits:Nat} {st:Bool} {t:Int} (hr:qav ls=true) (hl:ls.length≤16) (hk: ∀x∈ls,x.2.length≤10) (hv:qaj 58 v=true) (hv2:qbn v=true) (hv3:v.length≤10) (h:qqe ls [(qag,v)] r)
 (hb:bits<18446744073709551616) (hn:Go.Proofs.YtdeimnnpcfncpaaGreatDoor.kindN bits≠4) (hst:st=true∨t=0) (h0: -9223372036854775808≤t) (h1:t≤9223372036854775807):MdS ⟨r,bits,st,t⟩:=by
 have hv0:=(qbN hv).1;obtain⟨r1,r2⟩:=set_right hr (by omega) hv0 (by decide) hv2 h;obtain⟨s1,s2,s3⟩:=qez hr hv0 h;have hR:qaI ⟨r,bits,st,t⟩=true:=qfO r1 (by show qaj 58 (qaV r qag)=true;rw[r2];exact hv) (.inl hn) hst
 have hK: ∀x∈r,x.2.length≤10:=fun x hx=>by
  rcases(s2 x).1 hx with rfl|⟨hx,_⟩
  ·exact hv3
  ·exact hk x hx
 have hL:=qkm ⟨r,bits,st,t⟩ hb h0 h1 hR 10 hK;obtain⟨q1,q2,q3⟩:=(qaW _).1 r1;refine⟨⟨hR,hb,h0,h1,?_⟩,?_,fun x hx=>⟨?_,hK x hx⟩⟩
 ·have e:(⟨r,bits,st,t⟩:Smp).ls.length≤17:=by show r.length≤17;omega
  have:(⟨r,bits,st,t⟩:Smp).ls.length*(132+2*10)≤17*152:=Nat.mul_le_mul e (Nat.le_refl _);omega
 ·show r.length≤41;omega
 ·exact(qbN (qhC (q2 x hx).1).1).2.2
def qcy (ls:List Lb) (n:List UInt8):List Lb:=ls.filter (fun x=>!(x.1==n))
theorem qm8 (n x:List UInt8) (q b cap:Nat) (w:World) (hc:w.cell? ⟨q,0,none⟩=some (.slice (some ⟨b,0,none⟩) 1 cap)) (hT:qcC w b [n]):
 Calls Tryz.prog 47 #[.string (BS x),.pointer (some ⟨q,0,none⟩)] w fun e w'=>e= .returned (.bool (!(x==n)))∧w=w':=by
 have cs:=qjb b cap [n] x (by simp) w hT
 have e:[n].contains x=(x==n):=by
  rw[List.contains_cons];simp
 rw[e] at cs;obtain⟨g,hg⟩: ∃g,(x==n)=g:=⟨_,rfl⟩;rw[hg] at cs⊢;replace cs:=Lh cs;clear hT e hg;go_enter Tryz.func47,Tryz.ntmps47;go_wp2_with fail;refine cs.out.mono ?_;rintro e w1 ⟨rfl,rfl⟩;go_wp2_with fail;go_ret;exact⟨rfl,rfl⟩
theorem drop_take (ls:List Lb) (n:List UInt8) (i:Nat) (h:i<ls.length):qcy (ls.take (i+1)) n=qcy (ls.take i) n++(if ((ls.getD i lb0).1==n)=true then [] else [ls.getD i lb0]):=by
 unfold qcy;rw[List.take_add_one,List.getElem?_eq_getElem h,List.filter_append,List.getD_eq_getElem?_getD,List.getElem?_eq_getElem h];show _++([ls[i]].filter _)=_++(if (ls[i].1==n)=true then _ else _);cases hx:(ls[i].1==n)<;>simp[hx]
def qoF (base:Nat) (w:World) (r:List Lb) (e:Ending) (w':World):Prop:= ∃v,e= .returned (.tuple #[v,.int .i64 0])∧w'.ownsRow base 44 2 v r.length (qaa r)∧Below w.heap.size w w'
theorem qkB (v:Value) (ls:List Lb) (n:List UInt8) (hr:qav ls=true) (hb: ∀x∈ls,x.1.length≤1000000000∧x.2.length≤1000000000) (q b cap:Nat) (w:World) (hq:q<w.heap.size) (hc:w.cell? ⟨q,0,none⟩=some (.slice (some ⟨b,0,none⟩) 1 cap)) (hT:qcC w b [n]) (hv:qaC w v ls):
 Calls Tryz.prog 46 #[v,.func (.func 47) #[] #[.pointer (some ⟨q,0,none⟩)]] w (qoF w.heap.size w (qcy ls n)):=by
 obtain⟨a,c,rfl⟩:=hv.shape;have hl:=((qaW _).1 hr).1;have cR:=qcS _ ls (by omega) hb w hv;rw[hr] at cR;replace cR:=Lh cR;have hvh:=Lh hv;have c1:=Lh (fun x W (hB:Below w.heap.size w W)=>qm8 n x q b cap W ((hB.cell (p:=⟨q,0,none⟩) hq).trans hc) (hT.on hB));obtain⟨D,hD⟩: ∃D,Hid (D=qcy ls n):=⟨_,Lh rfl⟩;rw[←hD.out];obtain⟨m,hm⟩: ∃m,m=ls.length:=⟨_,rfl⟩;have hmh:=Lh hm;rw[←hm] at hl cR⊢;clear hv hc hT hq hm hb hr;go_enter Tryz.func46,Tryz.ntmps46;go_wp2_with fail;refine cR.out.mono ?_;rintro e w1 ⟨rfl,B1⟩;replace B1:=Lh B1;clear cR;go_wp2_with fail;go_loopg [6,14] (m+1) (fun gk s6 s14 wx=> ∃(i:Nat) (r:List Lb),i≤m∧m - i<gk∧s14= .int .i64 (i:Int)∧r.length≤i∧Hid (r=qcy (ls.take i) n)∧Hid (wx.ownsRow w.heap.size 44 2 s6 r.length (qaa r))∧Hid (Below w.heap.size w wx))
 case atStart=>exact⟨0,[],by omega,by omega,by go_num,by simp,Lh rfl,Lh ⟨rfl,.inl ⟨rfl,rfl⟩⟩,B1⟩
 case round=>
  clear B1;obtain⟨i,r,hi,hgk,rfl,hrl,hre,O,B⟩:=hrel
  by_cases hlt:i<m
  ·have hil:i<ls.length:=by rw[←hmh.out];exact hlt
   have u2:decide ((i:Int)<(m:Int))=true:=dT (by omega);have u3:decide (i<m)=true:=dT hlt;obtain⟨bb,off,rfl,hbl,x1,x2⟩:=(hvh.out.on B.out).at' i hil;have hdt:=Lh (drop_take ls n i hil);obtain⟨x,hx⟩: ∃x,Hid (x=ls.getD i lb0):=⟨_,Lh rfl⟩;rw[←hx.out] at x1 x2 hdt;have Bx: ∀ob,Hid (Below wr.heap.size wr (wr.alloc ob)):=fun ob=>Lh ((Below.refl _ _).alloc (Nat.le_refl _) ob)
   have By:=(Bx (.cells #[.string (BS x.1),.string (BS x.2)] 44)).out;have B2:=Lh (B.out.trans (By.mono B.out.size));have O2:=Lh (qaf O.out By);have cx:=c1.out x.1 _ B2.out;obtain⟨g,hg⟩: ∃g,(x.1==n)=g:=⟨_,rfl⟩;rw[hg] at cx hdt;replace cx:=Lh cx;have NX:(wr.alloc (.cells #[.string (BS x.1),.string (BS x.2)] 44)).heap[wr.heap.size]?=some (.cells #[.string (BS x.1),.string (BS x.2)] 44 (0,0)):=World.alloc_heap_new _ _;clear Bx By B O hg
   cases g with
   |true=>
    go_wp2_with fail;refine cx.out.mono ?_;rintro e w2 ⟨rfl,rfl⟩;go_wp2_with fail;go_roundg (gk - 1)
    case measure=>omega
    case rel=>exact⟨i+1,r,by omega,by omega,by go_num,by omega,Lh (by rw[hdt.out,hre.out];simp),O2,B2⟩
   |false=>
    go_wp2_with fail;refine cx.out.mono ?_;rintro e w2 ⟨rfl,rfl⟩;have hsz:=B2.out.size;have k0:(wr.alloc (.cells #[.string (BS x.1),.string (BS x.2)] 44)).cell? ⟨wr.heap.size,0,none⟩=some (.string (BS x.1)):=by rw[Lib.cell_of_heap NX];rfl
    have k1:(wr.alloc (.cells #[.string (BS x.1),.string (BS x.2)] 44)).cell? ⟨wr.heap.size,1,none⟩=some (.string (BS x.2)):=by rw[Lib.cell_of_heap NX];rfl
    generalize wr.alloc (.cells #[.string (BS x.1),.string (BS x.2)] 44)=w5 at*;generalize wr.heap.size=P5 at*;go_wp2_with (at_builtin;go_must (refine qdJ rfl (.tmp 22) (.tmp 24) 32 rfl 2 #[.string (BS x.1),.string (BS x.2)] rfl (by decide) w.heap.size (.agg #[.string ⟨#[]⟩,.string ⟨#[]⟩]) 32 (by kernel_rfl) qce rfl _ r.length (qaa r) rfl rfl O2.out (by intro u hu;simp at hu;rcases hu with rfl|rfl<;>rfl) (by decide) (by omega) hsz ?_);rintro v2 w6 hown3 hb6 hs6 hk6 _;have O6:=Lh hown3;have B6:=Lh (B2.out.trans hb6);clear hown3 hb6 hs6 hk6);go_roundg (gk - 1)
    case measure=>omega
    case rel=>exact⟨i+1,r++[x],by omega,by omega,by go_num,by simp;omega,Lh (by rw[hdt.out,hre.out];simp),Lh (by rw[List.length_append,show qaa (r++[x])=qaa r++qaP x by simp[qaa]];exact O6.out),B6⟩
  ·obtain rfl:i=m:=by omega
   have u2:decide ((i:Int)<(i:Int))=false:=dF (by omega);have hre2:=hre.out;rw[List.take_of_length_le (by rw[hmh.out];exact Nat.le_refl _),←hD.out] at hre2;subst hre2;obtain⟨a6,c6,rfl⟩:=qad O.out;go_wp2_with fail;go_ret2;exact⟨_,rfl,O.out,B.out⟩
theorem qpC (v:Value) (ls:List Lb) (n:List UInt8) (hr:qav ls=true) (hb: ∀x∈ls,x.1.length≤1000000000∧x.2.length≤1000000000) (b cap:Nat) (w:World) (hT:qcC w b [n]) (hv:qaC w v ls):
 Calls Tryz.prog 16 #[v,.slice (some ⟨b,0,none⟩) 1 cap] w (qoF w.heap.size w (qcy ls n)):=by
 obtain⟨a,c,rfl⟩:=hv.shape;have Ba:Below w.heap.size w (w.alloc (.cells #[.slice (some ⟨b,0,none⟩) 1 cap] 42)):=(Below.refl _ _).alloc (Nat.le_refl _) _;have cf:=qkB _ ls n hr hb w.heap.size b cap (w.alloc (.cells #[.slice (some ⟨b,0,none⟩) 1 cap] 42)) (by simp) (by rw[Lib.cell_of_heap (World.alloc_heap_new _ _)];rfl) (hT.on Ba) (hv.on Ba);replace cf:=Lh cf;have Bah:=Lh Ba;clear hr hb hT hv Ba;go_enter Tryz.func16,Tryz.ntmps16;go_wp2_with fail;refine cf.out.mono ?_;rintro e w1 ⟨v2,rfl,hown,hb⟩;have R:=Lh (show qoF w.heap.size w (qcy ls n) (.returned (.tuple #[v2,.int .i64 0])) w1 from⟨v2,rfl,qaK hown Bah.out.size,Bah.out.trans (hb.mono Bah.out.size)⟩);obtain⟨a2,c2,rfl⟩:=qad hown;clear hown hb cf Bah;go_wp2_with fail;go_ret2;exact R.out
end Go.Proofs.YtdeimnnpcfncpaaGreatDoor.X
