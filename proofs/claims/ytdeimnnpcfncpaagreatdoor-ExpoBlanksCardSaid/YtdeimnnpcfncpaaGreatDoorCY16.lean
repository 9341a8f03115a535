/- Parts of the proof: F21 X1 X2 W1 KB F25 KM LK10 LK11. -/
import Derived.Test.YtdeimnnpcfncpaaGreatDoorRows
import Derived.ProofKit
import Derived.LaidMore
import Derived.OpenShut
import Derived.Lib.LaidTab
import Derived.Lib.LaidU8
import Derived.Stop.LaidErr
import Derived.MakeChecks
import Derived.HandedShaped
import Derived.Lay
import Derived.Shelf.Vars
import Derived.RangeFuncNested
import Derived.RangeFuncBound
import Derived.RangeFuncCalls
import Derived.RangeFuncLeaves
import Derived.RangeFuncFrom
import Derived.Shelf.Abstract
import Derived.Shelf.RegionOpen
import Derived.OwnWalkIn
import Derived.TacticsInMore
import Derived.LoopNIn
import Derived.LoopIn
import Derived.Test.YtdeimnnpcfncpaaGreatDoorCY15
set_option linter.unusedVariables false
set_option linter.unusedSimpArgs false
set_option maxRecDepth 100000
set_option maxHeartbeats 64000000
section
namespace Go.Proofs.YtdeimnnpcfncpaaGreatDoor
open Go
def okB (c:UInt8):Bool:=isD c||c==46||c==101||c==69||c==43||c==45
theorem qfm {c:UInt8} (h:isD c=true):c≠46:=fun e=>by subst e;exact absurd h (by decide)
theorem qb3 (l:List UInt8) (h: ∀c∈l,isD c=true):l.count 46=0:=List.count_eq_zero.2 (fun hm=>qfm (h _ hm) rfl)
theorem qb1 {c:UInt8} (h:isD c=true):okB c=true:=by unfold okB;rw[h];rfl
theorem qfp (A R:List UInt8) (hA: ∀c∈A,isD c=true) (hR: ∀c,R.head?=some c→isD c=false):qbo (A++R)=A.length:=by
 unfold qbo;rw[List.takeWhile_append_of_pos hA]
 cases R with
 |nil=>simp
 |cons c t=>rw[List.takeWhile_cons,hR c rfl];simp
theorem qqy (A B R:List UInt8) (hA: ∀c∈A,isD c=true) (hB: ∀c∈B,isD c=true) (hR: ∀c,R.head?=some c→isD c=false):qel (A++46::(B++R))=(A.length+B.length,R):=by
 have h1:=qfp A (46::(B++R)) hA (fun c hc=>by cases hc;rfl);have h2:=qfp B R hB hR;unfold qel;dsimp only;rw[h1,List.drop_left];dsimp only;rw[if_pos rfl,h2,List.drop_left]
end Go.Proofs.YtdeimnnpcfncpaaGreatDoor
end
section
namespace Go.Proofs.YtdeimnnpcfncpaaGreatDoor
open Go Go.RowKit
def dgT (c:UInt8):UInt8:=UInt8.ofNat (48+c.toNat%10)
def tx (l:List UInt8) (i:Nat):List UInt8:=if i=0 then [48] else (l.take i).map dgT
def BS (l:List UInt8):ByteArray:=⟨l.toArray⟩
theorem qac (l:List UInt8):(BS l).size=l.length:=by unfold BS;show l.toArray.size=_;simp
theorem qaM (a b:List UInt8):BS a++BS b=BS (a++b):=by apply qbn;simp[BS]
theorem qnB {P:Program} {w w':World} {n:String} {k:IntKind} {zs:List Int} (h:Lib.TabIs P w n k zs) (hb:Below w.heap.size w w'):Lib.TabIs P w' n k zs:=by
 unfold Lib.TabIs World.var? at*
 cases hg:P.globalNamed n with
 |none=>rw[hg] at h;cases h
 |some g=>
  rw[hg] at h;simp only[Option.bind_some] at h⊢
  have hlt:g<w.heap.size:=by
   rcases Nat.lt_or_ge g w.heap.size with h'|h'
   ·exact h'
   ·rw[Array.getElem?_eq_none h'] at h;cases h
  rw[hb.block g hlt];exact h
structure qrs (w:World):Prop where
 p:qj9 w
 tab:Lib.TabIs Tryz.prog w "internal/strconv.uint64pow10" .u64 Lib.pow10Tab
theorem qrs.on {w W:World} (h:qrs w) (hb:Below w.heap.size w W):qrs W:=⟨h.p.on hb,qnB h.tab hb⟩
structure qmH (w:World):Prop where
 a:qrs w
 m: ∃m:Int,w.cell? ⟨0,0,none⟩=some (.int .i64 m)
theorem qmH.on {w W:World} (h:qmH w) (hb:Below w.heap.size w W):qmH W:=by
 refine⟨h.a.on hb,?_⟩;obtain⟨m,hm⟩:=h.m;exact⟨m,by rw[hb.cell (p:=⟨0,0,none⟩) (by have:=h.a.p.f.big;show 0<_;omega)];exact hm⟩
end Go.Proofs.YtdeimnnpcfncpaaGreatDoor
end
section
namespace Go.Proofs.YtdeimnnpcfncpaaGreatDoor
open Go Ieee
theorem qjq (l:List UInt8) (h:qaR l):qax l<10^l.length:=by
 induction l with
 |nil=>exact Nat.one_pos
 |cons c t ih=>
  have hc:=h c (List.mem_cons_self ..);have:=ih (fun x hx=>h x (List.mem_cons_of_mem _ hx));rw[qaT,List.length_cons,Nat.pow_succ];have h9:(c.toNat - 48)*10^t.length≤9*10^t.length:=Nat.mul_le_mul_right _ (by omega);omega
theorem qbN {c:UInt8} {t:List UInt8} (h:qaR (c::t)):48≤c.toNat∧c.toNat≤57∧qaR t:=⟨(h c (List.mem_cons_self ..)).1,(h c (List.mem_cons_self ..)).2,fun x hx=>h x (List.mem_cons_of_mem _ hx)⟩
theorem qdv {a b:List UInt8} (h:qaR (a++b)):qaR a∧qaR b:=⟨fun x hx=>h x (List.mem_append_left _ hx),fun x hx=>h x (List.mem_append_right _ hx)⟩
theorem qtD {c:UInt8} (h:c.toNat=48):c=48:=UInt8.toNat_inj.1 h
theorem qcK (c:UInt8) (t:List UInt8) (h:qaR (c::t)) (hc:c≠48):10^t.length≤qax (c::t):=by
 obtain⟨h1,h2,h3⟩:=qbN h;rw[qaT];have h4:c.toNat≠48:=fun e=>hc (qtD e)
 have:1*10^t.length≤(c.toNat - 48)*10^t.length:=Nat.mul_le_mul_right _ (by omega);omega
theorem canon (n:Nat): ∀l:List UInt8,l.length=n→qaR l→l≠[]→(l.head?≠some 48∨l.length=1)→l=Lib.decDigits (qax l):=by
 induction n with
 |zero=>intro l h _ h0;exact absurd (List.eq_nil_of_length_eq_zero h) h0
 |succ n ih=>
  intro l hl hd h0 hh;obtain⟨a,x,rfl⟩: ∃a x,l=a++[x]:=⟨l.dropLast,l.getLast h0,(List.dropLast_concat_getLast h0).symm⟩;obtain⟨ha,hx⟩:=qdv hd;have hx1:=hx x (List.mem_singleton.2 rfl);rw[List.length_append,List.length_singleton] at hl
  by_cases hn:a=[]
  ·subst hn;rw[List.nil_append,qce,Lib.decDigits,dif_pos (by omega)];rw[show 48+(x.toNat - 48)=x.toNat by omega,UInt8.ofNat_toNat]
  ·have hha:a.head?≠some 48:=by
    rcases hh with hh|hh
    ·intro e;apply hh
     cases a with
     |nil=>exact absurd rfl hn
     |cons c t=>exact e
    ·rw[List.length_append,List.length_singleton] at hh;have:=List.length_pos_iff.2 hn;omega
   have hi:=ih a (by omega) ha hn (.inl hha)
   have hp:1≤qax a:=by
    cases a with
    |nil=>exact absurd rfl hn
    |cons c t=>
     have:=qcK c t ha (fun e=>hha (by rw[e];rfl));have:=Nat.pow_pos (n:=t.length) (show 0<10 by decide);omega
   rw[qbf,qce,List.length_singleton,Nat.pow_one,Lib.decDigits,dif_neg (by omega)];rw[show(qax a*10+(x.toNat - 48))/10=qax a by omega,show 48+(qax a*10+(x.toNat - 48))%10=x.toNat by omega,←hi,UInt8.ofNat_toNat]
theorem qkR (l:List UInt8) (h:qaR l):Lib.trimLeftB l 48=if qax l=0 then [] else Lib.decDigits (qax l):=by
 induction l with
 |nil=>rfl
 |cons c t ih=>
  obtain⟨h1,h2,h3⟩:=qbN h
  by_cases hc:c=48
  ·subst hc;have e:qax (48::t)=qax t:=by rw[qaT];simp
   rw[e,←ih h3];rfl
  ·have hp:=qcK c t h hc;have:=Nat.pow_pos (n:=t.length) (show 0<10 by decide);rw[if_neg (by omega),←canon _ (c::t) rfl h (by simp) (.inl (by simpa using hc))];unfold Lib.trimLeftB;rw[List.dropWhile_cons,if_neg (by simpa using hc)]
theorem qtA (A B C D:Nat):A*D*C*B=D*B*C*A:=by ac_rfl
theorem qoO (s:Bool) (r U:Nat) (hU:2^1074=U) (hr:r<INF): ∃L q,exD (sgw s+r)=(L,q)∧qaR L∧q≤L.length∧(q≤1074∧q≤1075 - ex r)∧qax L*U=V r*10^q:=by
 replace hU:=Lh hU;have hI:INF=9218868437227405312:=rfl
 have hw:(sgw s+r)/4503599627370496%2048=r/4503599627370496∧(sgw s+r)%4503599627370496=r%4503599627370496:=by
  cases s<;>simp only[sgw,Bool.false_eq_true,if_false,if_true]<;>omega
 have hE:exE (sgw s+r)=ex r:=by
  unfold exE ex;rw[hw.1]
  by_cases h:r<4503599627370496
  ·rw[if_pos h,if_pos (by omega)]
  ·rw[if_neg h,if_neg (by omega)]
 have hF:exF (sgw s+r)=fr r:=by
  unfold exF fr;rw[hw.1,hw.2]
  by_cases h:r<4503599627370496
  ·rw[if_pos h,if_pos (by omega),Nat.mod_eq_of_lt h]
  ·rw[if_neg h,if_neg (by omega)]
 have he1:1≤ex r:=by
  unfold ex;split<;>omega
 have hV:V r=fr r*2^(ex r - 1):=rfl;unfold exD;rw[hE,hF,hV];obtain⟨a1,a2⟩:=qno (ex r - 1075) (Lib.decDigits (fr r)) (qci _);rw[qct] at a1
 by_cases h0:0<fr r
 ·rw[if_pos h0];obtain⟨L,p,b1,b2,b3,b4,b5⟩:=ql3 (1075 - ex r) _ 0 a2;rw[Nat.zero_add] at b1;have hp4:p≤1074:=Nat.le_trans b5 (by have:=he1;revert this;generalize ex r=E;intro this;omega);refine⟨L,p,b1,b2,b4▸Nat.le_add_left _ _,⟨hp4,b5⟩,?_⟩;rw[a1] at b3
  have e1:U*2^(ex r - 1075)=2^(1075 - ex r)*2^(ex r - 1):=by
   have q1:=Nat.pow_add 2 1074 (ex r - 1075);rw[hU.out] at q1;rw[←q1,←Nat.pow_add 2 (1075 - ex r) (ex r - 1)];exact congrArg (2^ ·) (by omega)
  have hz:0<2^(ex r - 1075):=Nat.two_pow_pos _;apply Nat.eq_of_mul_eq_mul_right hz;rw[Nat.mul_assoc,e1,←Nat.mul_assoc,b3];generalize 2^(ex r - 1075)=A;generalize 2^(ex r - 1)=B;generalize 10^p=C;generalize fr r=D;exact qtA A B C D
 ·have hf0:fr r=0:=by omega
  rw[if_neg h0];exact⟨_,0,rfl,a2,Nat.zero_le _,⟨Nat.zero_le _,Nat.zero_le _⟩,by rw[a1,hf0,Nat.mul_zero,Nat.zero_mul,Nat.zero_mul,Nat.zero_mul]⟩
end Go.Proofs.YtdeimnnpcfncpaaGreatDoor
end
section
namespace Go.Proofs.YtdeimnnpcfncpaaGreatDoor
open Go Go.RowKit
theorem qqh {a:Int} (h:(Lit.int .u8 a).wf=true): ∃n:Nat,a=(n:Int)∧n<256:=by
 simp[Lit.wf,IntKind.min,IntKind.max,IntKind.signed,IntKind.bits] at h;exact⟨a.toNat,by omega,by omega⟩
end Go.Proofs.YtdeimnnpcfncpaaGreatDoor
end
section
namespace Go.Proofs.YtdeimnnpcfncpaaGreatDoor.L
open Go.RowKit Go.Shelf
def Same (Bs:Nat) (A B:World):Prop:=B.heap[Bs]?=A.heap[Bs]?
def qoH (Bs:Nat) (I:Nat→World→Prop) (Ix:World→Prop) (k:Nat) (A:World):Exit→Act→World→Prop
 | .normal,_,B=>KeepsOthers A B∧Same Bs A B∧I (k+1) B
 | .ret,_,B=>KeepsOthers A B∧Ix B
 | .exit _,_,_=>False
 | .goto _,_,_=>False
 | .panic _,_,_=>False
 | .outgrown,_,_=>False
theorem qeB {A:World} {b k:Nat} (v:Value) (h:k≠b):(A.setCell ⟨b,0,none⟩ v).heap[k]?=A.heap[k]?:=Below.heap_setCell _ ⟨b,0,none⟩ v k h
theorem qqW {F:Fence} {n:Nat} {P:Program} {g:Operand} {ps:Array Tmp} {assign body:Code} {Q:Exit→Act→World→Prop} {a:Act} {w:World}
 (hro:F.round=none) (h1:1≤n) {gf:Nat} {lb:Array Value} (hg:a.eval g= .func (.func gf) #[] lb) (hFg:F.fn gf) (eg: ∀args w,(callFunc gf args).run P w= .ok (.enter gf args) w)
 (encs:Nat→Array Value) (N Bs:Nat) (hBs:Bs<w.heap.size)
 (G:World→Prop) (hit: ∀(l:Nat) (J:Nat→World→Prop) (Jx:World→Prop) (W:World),Below w.heap.size w W→(∀k A,∀n,J k A→J k (A.drewN n)∧G A)→(∀k A v,J k A→J k (A.setCell ⟨Bs,0,none⟩ v))→
   (∀k A,k<N→J k A→YieldAt F (n - 1 - 1) P l (encs k) A fun e B=>(e= .returned (.bool true)∧J (k+1) B∧Same Bs A B)∨(e= .returned (.bool false)∧Jx B))→J 0 W→
   CallsIn F (n - 1) P gf (#[.func (.yield l) #[] #[]]++lb) W fun e B=>(∃v,e= .returned v)∧(J N B∨Jx B))
 (hps: ∀k,(encs k).size=ps.size) (I:Nat→World→Prop) (Ix:World→Prop) (hI:OwnFrom w.heap.size I) (hIx:OwnFrom w.heap.size (fun (_:Unit) W=>Ix W)) (hIG: ∀k A,I k A→G A) (hIs: ∀k A v,I k A→I k (A.setCell ⟨Bs,0,none⟩ v)) (h0:I 0 w) (a₁:Nat→Act)
 (hassign: ∀(l k:Nat) (W:World) (K:Act→World→Prop),K (a₁ k) W→
   assign.wpIn (F.inRound l) (n - 1 - 1) P (Exit.then K (fun _ _ _=>False)) {tmps:=(ps.zip (encs k)).foldl (fun t (p,v)=>t.setIfInBounds p v) a.tmps,defers:=[]} W)
 (hbody: ∀(l k:Nat) (W:World),I k W→k<N→body.wpIn (F.inRound l) (n - 1 - 1) P (qoH Bs I Ix k W) (a₁ k) W)
 (hdone: ∀(D:Nat) (W:World),w.heap.size≤D→I N W→W.heap[D]?=some (.deferred (some []))→Q .normal {a with defers:={target:= .collected D,args:=#[]}::a.defers} W)
 (hstop: ∀(D:Nat) (W:World),w.heap.size≤D→Ix W→W.heap[D]?=some (.deferred (some []))→Code.ret.wpIn F n P Q {a with defers:={target:= .collected D,args:=#[]}::a.defers} W):
 (Code.rangeFunc g ps assign body).wpIn F n P Q a w:=by
 refine wpIn_rangeFunc fun fn hfn=>?_
 rw[hro]
 let rec2:LoopState→Option Code→Loop:=fun st pe=>{state:=st,pending:=pe,fn,tmps:=a.tmps,params:=ps,assign,body,defers:=w.heap.size}
 have hb1:Below w.heap.size w ((w.alloc (.deferred (some []))).alloc (.loop (rec2 .ready none))):=((Below.refl _ w).alloc (Nat.le_refl _) _).alloc (by simp) _;have hI1:I 0 ((w.alloc (.deferred (some []))).alloc (.loop (rec2 .ready none))):=hI.alloc _ (hI.alloc _ h0)
 have hL1:((w.alloc (.deferred (some []))).alloc (.loop (rec2 .ready none))).heap[w.heap.size+1]?=some (.loop (rec2 .ready none)):=by
  have:=World.alloc_heap_new (w.alloc (.deferred (some []))) (.loop (rec2 .ready none));rwa[World.size_alloc] at this
 have hK1:((w.alloc (.deferred (some []))).alloc (.loop (rec2 .ready none))).heap[w.heap.size]?=some (.deferred (some [])):=(Below.heap_alloc _ _ _ (by simp)).trans (World.alloc_heap_new w _)
 refine⟨w.heap.size+1,[{target:= .collected w.heap.size,args:=#[]}],(w.alloc (.deferred (some []))).alloc (.loop (rec2 .ready none)),{target:= .fn (.func gf) lb,args:=#[.func (.yield (w.heap.size+1)) #[] #[]]},(w.alloc (.deferred (some []))).alloc (.loop (rec2 .ready none)),gf,
  #[.func (.yield (w.heap.size+1)) #[] #[]]++lb,(w.alloc (.deferred (some []))).alloc (.loop (rec2 .ready none)),run_enterLoop_outer _ _ _ _ _,?_,?_,?_,fun _=>h1,?_⟩
 ·simp only[resolve,hg];simp[go_sem]
 ·intro f' hf';simp[Target.leads] at hf';subst hf';exact hFg
 ·simp[invoke,go_sem,eg]
 ·generalize (w.alloc (.deferred (some []))).alloc (.loop (rec2 .ready none))=W1 at hb1 hI1 hL1 hK1
  refine(hit (w.heap.size+1) (fun k W=>I k W∧W.heap[w.heap.size+1]?=some (.loop (rec2 .ready none))∧W.heap[w.heap.size]?=some (.deferred (some [])))
   (fun W=>Ix W∧W.heap[w.heap.size+1]?=some (.loop (rec2 .done (some .ret)))∧W.heap[w.heap.size]?=some (.deferred (some []))) W1 hb1
   (fun k A n h=>⟨⟨hI k A (A.drewN n) none h.1 ⟨rfl,rfl,rfl,Nat.le_refl _,fun _ _ _=>rfl⟩ (fun _ e=>by cases e),h.2⟩,hIG k A h.1⟩)
   (fun k A v h=>⟨hIs k A v h.1,(qeB v (by omega)).trans h.2.1,(qeB v (by omega)).trans h.2.2⟩) ?_ ⟨hI1,hL1,hK1⟩).mono ?_
  ·rintro k A hk ⟨hi,hl,hd⟩;have hlt:w.heap.size+1<A.heap.size:=(Array.getElem?_eq_some_iff.1 hl).1;refine⟨fn,_,assign,body,run_yield (P:=P) (args:=encs k) hl (hps k),roundIn_of_wpIn hfn (hassign _ k A _ ⟨_,run_beginRound hl rfl,?_⟩)⟩;refine wpIn_mono (hbody _ k _ (hI.putObj _ hi (by omega) hl rfl) hk) ?_;have hl2:(A.putObj (w.heap.size+1) (.loop {rec2 .ready none with state:= .busy})).heap[w.heap.size+1]?=some (.loop {rec2 .ready none with state:= .busy}):=World.putObj_heap_same hlt;have hd2:(A.putObj (w.heap.size+1) (.loop {rec2 .ready none with state:= .busy})).heap[w.heap.size]?=some (.deferred (some [])):=(World.putObj_heap_other (by omega)).trans hd;have hs2:Same Bs A (A.putObj (w.heap.size+1) (.loop {rec2 .ready none with state:= .busy})):=World.putObj_heap_other (by omega);rintro e a3 B hp
   cases e with
   |normal=>
    obtain⟨hko,hsm,hi3⟩:=hp;have hl3:=hko.same _ _ hl2 rfl;refine⟨_,_,run_endRound (P:=P) none hl3,.inl ⟨rfl,⟨hI.putObj _ hi3 (by omega) hl3 rfl,World.putObj_heap_same (Array.getElem?_eq_some_iff.1 hl3).1,(World.putObj_heap_other (by omega)).trans (hko.same _ _ hd2 rfl)⟩,?_⟩⟩;exact((World.putObj_heap_other (by omega)).trans hsm).trans hs2
   |ret=>
    obtain⟨hko,hi3⟩:=hp;have hl3:=hko.same _ _ hl2 rfl;exact⟨_,_,run_endRound (P:=P) (some .ret) hl3,.inr ⟨rfl,hIx.putObj (s:=()) _ hi3 (by omega) hl3 rfl,World.putObj_heap_same (Array.getElem?_eq_some_iff.1 hl3).1,(World.putObj_heap_other (by omega)).trans (hko.same _ _ hd2 rfl)⟩⟩
   |exit id=>exact hp.elim
   |goto t=>exact hp.elim
   |panic ch=>exact hp.elim
   |outgrown=>exact hp.elim
  ·rintro e B ⟨⟨v,rfl⟩,(⟨hi,hl,hd⟩|⟨hi,hl,hd⟩)⟩
   ·exact⟨none,_,run_endLoop (P:=P) hl (by simp[rec2]),hdone _ _ (Nat.le_refl _) (hI.putObj _ hi (by omega) hl rfl) ((World.putObj_heap_other (by omega)).trans hd)⟩
   ·exact⟨some .ret,_,run_endLoop (P:=P) hl (by simp[rec2]),hstop _ _ (Nat.le_refl _) (hIx.putObj (s:=()) _ hi (by omega) hl rfl) ((World.putObj_heap_other (by omega)).trans hd)⟩
attribute [local go_sem] Oper.semAt_some
theorem index_one (l:List UInt8) (c:UInt8):Lib.index l [c]=if c∈l then ((l.takeWhile (·!=c)).length:Int) else -1:=by
 induction l with
 |nil=>rfl
 |cons b l ih=>
  rw[Lib.index]
  by_cases h:b=c
  ·subst h;simp[List.isPrefixOf]
  ·have h1:([c]:List UInt8).isPrefixOf (b::l)=false:=by
    simp[List.isPrefixOf];exact fun e=>h e.symm
   have h2:(b !=c)=true:=by simpa using h
   by_cases hm:c∈l
   ·have e2:c∈b::l:=List.mem_cons_of_mem _ hm;simp only[h1,ih,if_pos hm,if_pos e2,Bool.false_eq_true,if_false,List.takeWhile_cons,h2,if_true,List.length_cons];rw[if_neg (by simp)];omega
   ·have e2: ¬c∈b::l:=by rw[List.mem_cons];rintro(e|e);exact h e.symm;exact hm e
    simp only[h1,ih,if_neg hm,if_neg e2,Bool.false_eq_true,if_false];rfl
theorem qko (l:List UInt8) (p:UInt8→Bool) (h: ∀x∈l,p x=true):l.takeWhile p=l:=by
 induction l with
 |nil=>rfl
 |cons b l ih=>
  rw[List.takeWhile_cons,h b (List.mem_cons_self ..),ih (fun x hx=>h x (List.mem_cons_of_mem _ hx))];rfl
theorem qkd (l:List UInt8) (p:UInt8→Bool) (h: ∀x∈l,p x=true):l.dropWhile p=[]:=by
 induction l with
 |nil=>rfl
 |cons b l ih=>
  rw[List.dropWhile_cons,if_pos (h b (List.mem_cons_self ..))];exact ih (fun x hx=>h x (List.mem_cons_of_mem _ hx))
theorem qbx (l:List UInt8) (p:UInt8→Bool):l.drop (l.takeWhile p).length=l.dropWhile p:=by
 induction l with
 |nil=>rfl
 |cons b l ih=>
  simp only[List.takeWhile_cons,List.dropWhile_cons]
  split
  ·simpa using ih
  ·rfl
theorem qby (l:List UInt8) (p:UInt8→Bool):l.take (l.takeWhile p).length=l.takeWhile p:=by
 induction l with
 |nil=>rfl
 |cons b l ih=>
  simp only[List.takeWhile_cons]
  split
  ·simpa using ih
  ·rfl
theorem qgV (l:List UInt8) (c:UInt8):Lib.cut l [c]=(l.takeWhile (·!=c),(l.dropWhile (·!=c)).drop 1,decide (c∈l)):=by
 unfold Lib.cut;rw[index_one]
 by_cases h:c∈l
 ·rw[if_pos h,if_pos (by omega),dT h];simp only[Int.toNat_natCast,List.length_cons,List.length_nil];rw[qby,←List.drop_drop,qbx]
 ·have h1: ∀x∈l,(x !=c)=true:=fun x hx=>by simpa using (fun e=>h (e▸hx):x≠c)
  rw[if_neg h,if_neg (by omega),dF h,qko l _ h1,qkd l _ h1];rfl
def linesL (l:List UInt8):List (List UInt8):=
 if h:l=[] then [] else l.takeWhile (·!=10)::linesL ((l.dropWhile (·!=10)).drop 1)
termination_by l.length
decreasing_by
 have:=List.length_pos_iff.2 h;have h2:=(List.dropWhile_sublist (p:=fun x=>x !=(10:UInt8)) (l:=l)).length_le;rw[List.length_drop];omega
theorem qiI:linesL []=[]:=by rw[linesL];rfl
theorem qgG (l:List UInt8) (h:l≠[]):linesL l=l.takeWhile (·!=10)::linesL ((l.dropWhile (·!=10)).drop 1):=by
 rw[linesL,dif_neg h]
theorem qhe (l:List UInt8) (h:l≠[]):((l.dropWhile (·!=(10:UInt8))).drop 1).length<l.length:=by
 have:=List.length_pos_iff.2 h;have h2:=(List.dropWhile_sublist (p:=fun x=>x !=(10:UInt8)) (l:=l)).length_le;rw[List.length_drop];omega
theorem qeM (l:List UInt8):(linesL l).length≤l.length:=by
 fun_induction linesL l with
 |case1=>exact Nat.le_refl _
 |case2 l h ih=>
  have:=qhe l h;rw[List.length_cons];omega
def qo6 (W:World) (b:Nat):Nat:=match W.cell? ⟨b,0,none⟩with|some (.string s)=>s.size|_=>0
theorem qh4 {W:World} {b:Nat} {t:TypeId} {s:ByteArray} (h:Boxed W b t (.string s)):qo6 W b=s.size:=by unfold qo6;rw[h.cell]
def MaxG (W:World):Prop:= ∃m:Int,W.cell? ⟨0,0,none⟩=some (.int .i64 m)
theorem qjG (m:Nat) (hm:2≤m) (y Bs:Nat) (l:List UInt8) (hl:l.length≤65536) (J:Nat→World→Prop) (Jx:World→Prop) (hJd: ∀k A n,J k A→J k (A.drewN n)∧MaxG A) (hJs: ∀k A v,J k A→J k (A.setCell ⟨Bs,0,none⟩ v))
 (hY: ∀k A,k<(linesL l).length→J k A→YieldAt Fence.wide (m - 1) Tryz.prog y #[.string ⟨((linesL l).getD k []).toArray⟩] A fun e B=>(e= .returned (.bool true)∧J (k+1) B∧Same Bs A B)∨(e= .returned (.bool false)∧Jx B))
 (W:World) (hBx:Boxed W Bs 9 (.string ⟨l.toArray⟩)) (h0:J 0 W):
 CallsIn Fence.wide m Tryz.prog 151 #[.func (.yield y) #[] #[],.pointer (some ⟨Bs,0,none⟩)] W fun e B=>(∃v,e= .returned v)∧(J (linesL l).length B∨Jx B):=by
 have hro:Fence.wide.round=none:=rfl;have h1n:1≤m:=by omega
 refine callsIn_of_wp Tryz.func151 rfl trivial ?_ hro;simp only[Tryz.ntmps151,List.size_toArray,List.length_cons,List.length_nil,Nat.reduceAdd,Nat.reduceSub,Array.replicate_succ,Array.replicate_zero,List.push_toArray,List.append_toArray,List.nil_append,List.cons_append];gi_wp2
 gi_loopw [3] (fun _ wr=> ∃(k:Nat) (t:List UInt8),k≤(linesL l).length∧Boxed wr Bs 9 (.string ⟨t.toArray⟩)∧t.length≤65536∧Hid (linesL t=(linesL l).drop k)∧J k wr)
  (fun _ wr=>qo6 wr Bs)
 case atStart=>exact⟨0,l,by omega,hBx,hl,rfl,h0⟩
 case round=>
  obtain⟨k,t,hk,hb,ht,hL,hj⟩:=hrel;have hcell:=hb.cell;have hfr:=hb.frozen
  by_cases he:t=[]
  ·subst he;rw[qiI] at hL
   obtain rfl:k=(linesL l).length:=by
    have:=congrArg List.length hL.out;rw[List.length_drop] at this;simp at this;omega
   clear hL;gi_wp2;go_end0;exact⟨⟨_,rfl⟩,.inl hj⟩
  ·have hLo:=hL.out;rw[qgG t he] at hLo
   have hklt:k<(linesL l).length:=by
    rcases Nat.lt_or_ge k (linesL l).length with h|h
    ·exact h
    ·rw[List.drop_of_length_le h] at hLo;cases hLo
   rw[List.drop_eq_getElem_cons hklt] at hLo;have h1:=(List.cons.inj hLo).1;have h2:=Lh (List.cons.inj hLo).2;have hgk:(linesL l).getD k []=t.takeWhile (·!=10):=by rw[List.getD_eq_getElem?_getD,List.getElem?_eq_getElem hklt,Option.getD_some,h1]
   obtain⟨mx,hmx⟩:=(hJd k wr 0 hj).2;have hcut:=Tryz.strings_Cut ⟨t.toArray⟩ ⟨#[10]⟩ mx wr (by rw[qe1];omega) hmx;rw[show(⟨t.toArray⟩:ByteArray).data.toList=t by simp,show(⟨#[10]⟩:ByteArray).data.toList=[10] from rfl,qgV] at hcut;have hrl:=qhe t he;simp only at hcut;rw[←hgk] at hcut;obtain⟨a1,ha1⟩: ∃a,Hid ((linesL l).getD k []=a):=⟨_,rfl⟩;obtain⟨a2,ha2⟩: ∃a,Hid ((t.dropWhile (·!=10)).drop 1=a):=⟨_,rfl⟩;rw[ha1.out,ha2.out] at hcut;rw[ha2.out] at h2 hrl;have hYk:=hY k;rw[ha1.out] at hYk;replace hYk:=Lh hYk;replace hcut:=Lh hcut;have t1:t.isEmpty=false:=by simpa using he
   clear hLo h1 hgk hY hL hmx ha1 ha2;gi_wp2_with (refine⟨trivial,?_⟩;gi_at_call 152;refine(callsIn_wide.2 hcut.out).mono ?_;rintro e w1 ⟨rfl,⟨dn,rfl⟩⟩);obtain⟨fn,tmps,assign,body,hy,hRR⟩:=hYk.out (wr.drewN dn) hklt (hJd k wr dn hj).1;rw[hy];gi_wp2;refine hRR.mono ?_;rintro e W3 (⟨rfl,hj3,hs3⟩|⟨rfl,hx⟩)
   ·have hb3:Boxed W3 Bs 9 (.string ⟨t.toArray⟩):=Eq.trans hs3 hb;have hcell3:=hb3.cell;have hfr3:=hb3.frozen;have hlen:(linesL l).length≤l.length:=qeM l;clear hcell hfr hRR hs3 hj hYk hcut;gi_wp2;go_roundw
    case rel=>exact⟨k+1,a2,by omega,hb3.set _,by omega,h2,hJs _ _ _ hj3⟩
    case measure=>
     rw[qh4 hb,qh4 (hb3.set _),qe1,qe1];exact hrl
   ·clear hRR hj hYk hcut;gi_wp2;exact bodyPost_ret (v:= .tuple #[]) (by simp[results,Tryz.results151]) rfl ⟨⟨_,rfl⟩,.inr hx⟩
theorem qkI (m Bs:Nat) (hm:3≤m) (l:List UInt8) (hl:l.length≤65536) (w:World) (hb:Bs<w.heap.size) (hBx:Boxed w Bs 9 (.string ⟨l.toArray⟩)):
 ∀(y:Nat) (J:Nat→World→Prop) (Jx:World→Prop) (W:World),Below w.heap.size w W→(∀k A n,J k A→J k (A.drewN n)∧MaxG A)→(∀k A v,J k A→J k (A.setCell ⟨Bs,0,none⟩ v))→
  (∀k A,k<(linesL l).length→J k A→YieldAt Fence.wide (m - 1 - 1) Tryz.prog y #[.string ⟨((linesL l).getD k []).toArray⟩] A fun e B=>(e= .returned (.bool true)∧J (k+1) B∧Same Bs A B)∨(e= .returned (.bool false)∧Jx B))→J 0 W→
  CallsIn Fence.wide (m - 1) Tryz.prog 151 (#[.func (.yield y) #[] #[]]++#[.pointer (some ⟨Bs,0,none⟩)]) W fun e B=>(∃v,e= .returned v)∧(J (linesL l).length B∨Jx B):=
 fun y J Jx W hW hJd hJs hY h0=>qjG (m - 1) (by omega) y Bs l hl J Jx hJd hJs hY W ((hW.block Bs hb).trans hBx) h0
theorem qni (m:Nat) (s:ByteArray) (w:World):
 CallsIn Fence.wide m Tryz.prog 88 #[.string s] w fun e W'=>e= .returned (.func (.func 151) #[] #[.pointer (some ⟨w.heap.size,0,none⟩)])∧W'=w.alloc (.cells #[.string s] 9):=by
 have hro:Fence.wide.round=none:=rfl;refine callsIn_of_wp Tryz.func88 rfl trivial ?_ hro;simp only[Tryz.ntmps88,List.size_toArray,List.length_cons,List.length_nil,Nat.reduceAdd,Nat.reduceSub,Array.replicate_succ,Array.replicate_zero,List.push_toArray,List.append_toArray,List.nil_append,List.cons_append];gi_wp2;go_ret;exact⟨rfl,rfl⟩
end Go.Proofs.YtdeimnnpcfncpaaGreatDoor.L
end
