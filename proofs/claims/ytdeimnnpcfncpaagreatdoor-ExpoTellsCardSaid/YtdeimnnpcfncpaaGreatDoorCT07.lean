/- Parts of the proof: LC LP1 LR2 LQ1 LR1 LP5 LR3 LT1. -/
import GoSem.PinnedTables
import Derived.Deep.QuietTactic
import Derived.Outline
import Derived.RangeFuncWrites
import Derived.Lib.MapLaws
import Derived.Lib.QuoteLoop
import Derived.Lib.RuneCountTail
import Derived.Test.YtdeimnnpcfncpaaGreatDoorCT01
import Derived.Test.YtdeimnnpcfncpaaGreatDoorCT05
import Derived.Test.YtdeimnnpcfncpaaGreatDoorCT06
set_option linter.unusedVariables false
set_option linter.unusedSimpArgs false
set_option maxRecDepth 100000
set_option maxHeartbeats 64000000
section
namespace Go.Proofs.YtdeimnnpcfncpaaGreatDoor
open Go Go.RowKit
def sb (s:ByteArray) (i:Nat):Nat:=(bt s i).toNat
def ldl (k:Nat):Nat:=(Pinned.cheatRows.getD k (0,[])).1
def lcl (k:Nat):List UInt8:=(Pinned.cheatRows.getD k (0,[])).2
def lcs (k:Nat):ByteArray:=⟨(lcl k).toArray⟩
def pbL:List Nat:=[1,3,6,9,13,16,19,23,26]
def ptb (k:Nat):Nat:=pbL.getD k 0
def qsp (k:Nat):Bool:=
 (List.range (lcl k).length).all (fun i=>decide (48≤((lcl k).getD i 0).toNat)&&decide (((lcl k).getD i 0).toNat≤57))&&
 decide (num (fun i=>((lcl k).getD i 0).toNat) (lcl k).length=5^k)&&decide ((lcl k).length+ldl k=k+1)&&decide (1≤ldl k)&&decide (10^(ldl k - 1)≤2^k)&&decide (2^k<10^ldl k)&&
 decide (48<((lcl k).getD ((lcl k).length - 1) 0).toNat)&&decide ((lcl k).length≤100)
theorem qpF:((List.range 61).drop 1).all qsp=true:=by decide+kernel
theorem qkM (k:Nat):(lcs k).size=(lcl k).length:=by unfold lcs ByteArray.size;simp
theorem qsc (k:Nat) (h1:1≤k) (h2:k≤60):qcX (sb (lcs k)) (lcs k).size∧num (sb (lcs k)) (lcs k).size=5^k∧(lcs k).size+ldl k=k+1∧1≤ldl k∧10^(ldl k - 1)≤2^k∧2^k<10^ldl k∧48<sb (lcs k) ((lcs k).size - 1)∧(lcs k).size≤100:=by
 have h:=List.all_eq_true.1 qpF k (by
  rw[List.mem_iff_getElem?]
  exact⟨k - 1,by rw[List.getElem?_drop,List.getElem?_range (by omega)];congr 1;omega⟩)
 unfold qsp at h;simp only[Bool.and_eq_true,decide_eq_true_eq,List.all_eq_true,List.mem_range] at h;obtain⟨⟨⟨⟨⟨⟨⟨a,b⟩,c⟩,d⟩,e⟩,f⟩,g⟩,i⟩:=h;rw[qkM];exact⟨fun j hj=>a j hj,b,c,d,e,f,g,i⟩
def PtP (w:World):Prop:= ∃b off cap,w.cell? ⟨13,0,none⟩=some (.slice (some ⟨b,off,none⟩) 9 cap)∧b<w.heap.size∧ ∀k,k<9→w.cell? ⟨b,off+k,none⟩=some (.int .i64 (ptb k:Int))
def LcP (w:World):Prop:= ∃b off cap,w.cell? ⟨16,0,none⟩=some (.slice (some ⟨b,off,none⟩) 61 cap)∧b<w.heap.size∧ ∀k,k<61→w.cell? ⟨b,off+k*2,none⟩=some (.int .i64 (ldl k:Int))∧w.cell? ⟨b,off+k*2+1,none⟩=some (.string (lcs k))
theorem qeO {w:World} {p:Addr} {v:Value} (h:w.cell? p=some v):p.block<w.heap.size:=by
 rcases Nat.lt_or_ge p.block w.heap.size with h'|h'
 ·exact h'
 ·unfold World.cell? at h;rw[Array.getElem?_eq_none h'] at h;cases h
theorem PtP.on {w W:World} {B:Nat} (h:PtP w) (hB:w.heap.size≤B) (hb:Below B w W):PtP W:=by
 obtain⟨b,off,cap,q1,q2,q3⟩:=h;have h13:13<w.heap.size:=qeO q1;exact⟨b,off,cap,by rw[hb.cell (p:=⟨13,0,none⟩) (Nat.lt_of_lt_of_le h13 hB)];exact q1,Nat.lt_of_lt_of_le q2 hb.size,fun k hk=>by rw[hb.cell (p:=⟨b,off+k,none⟩) (Nat.lt_of_lt_of_le q2 hB)];exact q3 k hk⟩
theorem LcP.on {w W:World} {B:Nat} (h:LcP w) (hB:w.heap.size≤B) (hb:Below B w W):LcP W:=by
 obtain⟨b,off,cap,q1,q2,q3⟩:=h;have h16:16<w.heap.size:=qeO q1;exact⟨b,off,cap,by rw[hb.cell (p:=⟨16,0,none⟩) (Nat.lt_of_lt_of_le h16 hB)];exact q1,Nat.lt_of_lt_of_le q2 hb.size,fun k hk=>by rw[hb.cell (p:=⟨b,off+k*2,none⟩) (Nat.lt_of_lt_of_le q2 hB),hb.cell (p:=⟨b,off+k*2+1,none⟩) (Nat.lt_of_lt_of_le q2 hB)];exact q3 k hk⟩
end Go.Proofs.YtdeimnnpcfncpaaGreatDoor
end
section
namespace Go.Proofs.YtdeimnnpcfncpaaGreatDoor.L
theorem qiz (u:Nat) (k:Nat) (h:u<10^(k+1)):(Lib.decDigits u).length≤k+1:=by
 induction k generalizing u with
 |zero=>
  rw[Lib.decDigits,dif_pos (by omega)];exact Nat.le_refl _
 |succ k ih=>
  rw[Lib.decDigits]
  by_cases h10:u<10
  ·rw[dif_pos h10];simp
  ·rw[dif_neg h10,List.length_append];have:=ih (u/10) (by rw[Nat.pow_succ] at h;omega);simp only[List.length_cons,List.length_nil];omega
theorem itoa_len (n:Int) (h0: -9223372036854775808≤n) (h1:n≤9223372036854775807):(Lib.itoa n).length≤21:=by
 unfold Lib.itoa
 split
 ·have:=qiz n.natAbs 19 (by omega);rw[List.length_cons];omega
 ·have:=qiz n.toNat 19 (by omega);omega
end Go.Proofs.YtdeimnnpcfncpaaGreatDoor.L
end
section
namespace Go.Proofs.YtdeimnnpcfncpaaGreatDoor.L
open Go.RowKit
theorem qra (s:ByteArray) (i:Nat) (h:i<s.size): ∃c:UInt8,Hid (s.data.toList.getD i 0=c)∧(((s[i]'h).toNat:Int)=(c.toNat:Int)):=
 ⟨_,Lh rfl,qcY s i h⟩
end Go.Proofs.YtdeimnnpcfncpaaGreatDoor.L
end
section
namespace Go.Proofs.YtdeimnnpcfncpaaGreatDoor.L
open Go.RowKit Go.Shelf
def qjY (c:UInt8):List UInt8:=if c=92 then [92,92] else if c=10 then [92,110] else if c=34 then [92,34] else [c]
def quL (l:List UInt8):List UInt8:=l.flatMap qjY
theorem qpj (j:Nat) (h:j<3):qjY (pcU j)=[92,plU j]:=by
 rcases(by omega:j=0∨j=1∨j=2)with rfl|rfl|rfl<;>rfl
theorem qpc (c:UInt8) (h: ∀j,j<3→c≠pcU j):qjY c=[c]:=by
 have h0:c≠92:=h 0 (by omega);have h1:c≠10:=h 1 (by omega);have h2:c≠34:=h 2 (by omega);unfold qjY;rw[if_neg h0,if_neg h1,if_neg h2]
theorem qlg (c:UInt8):(qjY c).length≤2:=by
 unfold qjY;(repeat' split)<;>simp
theorem quL_len (l:List UInt8):(quL l).length≤2*l.length:=by
 induction l with
 |nil=>exact Nat.le_refl _
 |cons c r ih=>
  have:=qlg c;unfold quL at ih⊢;rw[List.flatMap_cons,List.length_append,List.length_cons];omega
theorem qmu (l:List UInt8) (c:UInt8):quL (l++[c])=quL l++qjY c:=by simp[quL]
theorem qpH {B b:Nat} {l:List UInt8} {w:World} (h:BldK B b l w):b<w.heap.size:=by
 rcases h with h|h
 ·obtain⟨_,v,hb,_⟩:=h;exact(Array.getElem?_eq_some_iff.1 hb).1
 ·obtain⟨_,v,hb,_⟩:=h;exact(Array.getElem?_eq_some_iff.1 hb).1
def WrI (w0:World) (b N M:Nat) (acc:List UInt8) (w:World):Prop:=RdI w0 b N acc w∧Boxed w M 3 (.int .i64 3)
theorem WrI.alloc {w0:World} {b N M:Nat} {acc:List UInt8} {w:World} (h:WrI w0 b N M acc w) (o:Obj):WrI w0 b N M acc (w.alloc o):=⟨h.1.alloc o,h.2.alloc o⟩
theorem qrT (w0:World) (b N M:Nat) (hN:N≠b) (hM:M≠b) (acc:List UInt8) (c:UInt8) (hl:acc.length<1000000) (w:World) (h:WrI w0 b N M acc w):
 Calls Tryz.prog 99 #[.pointer (some ⟨b,0,none⟩),.int .u8 (c.toNat:Int)] w fun e w'=>e= .returned .nilIface∧WrI w0 b N M (acc++[c]) w'∧Lib.OthersKept 5 (some b) w w':=by
 obtain⟨⟨⟨h1,h2⟩,h3⟩,h4⟩:=h;refine(qrV w0.heap.size b acc c hl w h1 h3.size).mono ?_;rintro e w' ⟨rfl,g1,g2,g3⟩;exact⟨rfl,⟨⟨⟨g1,h2.kept hN g3⟩,h3.trans g2⟩,g3 M _ h4 (fun e=>hM (Option.some.inj e)) (fun c fz e=>by cases e)⟩,g3⟩
theorem qnJ (w0:World) (b N M:Nat) (hN:N≠b) (hM:M≠b) (acc:List UInt8) (c:UInt8) (hl:acc.length<900000) (w:World) (h:WrI w0 b N M acc w):
 Calls Tryz.prog 226 #[.int .u8 (c.toNat:Int),.pointer (some ⟨N,0,none⟩),.pointer (some ⟨M,0,none⟩),.pointer (some ⟨b,0,none⟩)] w fun e w'=>e= .returned (.tuple #[])∧WrI w0 b N M (acc++qjY c) w':=by
 have hM1:=h.2.cell;replace h:=Lh h;go_enter Tryz.func226,Tryz.ntmps226;go_wp2_with fail;clear hM1;go_loopg [0,10] 4 (fun g s0 s10 wx=> ∃j:Nat,j+g=4∧1≤g∧s0= .int .u8 (c.toNat:Int)∧s10= .int .i64 j∧Hid (∀i,i<j→c≠pcU i)∧Hid (WrI w0 b N M acc wx))
 case atStart=>exact⟨0,by omega,by omega,rfl,rfl,Lh (fun i hi=>by omega),h⟩
 case round=>
  clear h;obtain⟨j,hj,hg,rfl,rfl,hP,I⟩:=hrel
  by_cases hlj:j<3
  ·have t4:decide (j<3)=true:=dT hlj;obtain⟨k1,k2⟩:=I.out.1.1.2.cells j hlj;rw[qj8] at k1;rw[qjl] at k2;have hI1:=Lh (I.out.alloc (.cells #[.int .u8 ((pcU j).toNat:Int),.int .u8 ((plU j).toNat:Int)] 275))
   by_cases he:c=pcU j
   ·have s4:((c.toNat:Int)==((pcU j).toNat:Int))=true:=by rw[he];simp
    have ho:Hid ((acc++[92])++[plU j]=acc++qjY c):=by show _=_;rw[he,qpj j hlj];simp
    have I0:Hid (b<wr.heap.size):=Lh (qpH I.out.1.1.1);clear I hP;have hw1:=qrT w0 b N M hN hM acc 92 (by omega) _ hI1.out;rw[show(((92:UInt8).toNat:Int))=92 from rfl] at hw1;replace hw1:=Lh hw1;have hbl:=Lh (World.alloc_heap_new wr (.cells #[.int .u8 ((pcU j).toNat:Int),.int .u8 ((plU j).toNat:Int)] 275));have hbb:b<wr.heap.size:=I0.out;clear hI1 he;go_wp2_with fail;refine hw1.out.mono ?_;rintro e w3 ⟨rfl,hI3,hk⟩;have hb3:=hk wr.heap.size _ hbl.out (fun e=>by have:=Option.some.inj e;omega) (fun c fz e=>by cases e);have c1:w3.cell? ⟨wr.heap.size,1,none⟩=some (.int .u8 ((plU j).toNat:Int)):=by rw[Lib.cell_of_heap hb3];rfl
    have hI4:=Lh (qrT w0 b N M hN hM (acc++[92]) (plU j) (by simp;omega) _ hI3);rw[ho.out] at hI4;clear hw1 hbl hk hb3 hI3 ho;go_wp2_with fail;refine hI4.out.mono ?_;rintro e w4 ⟨rfl,hI5,_⟩;replace hI5:=Lh hI5;clear hI4 c1;go_wp2_with fail;go_end0;exact⟨rfl,hI5.out⟩
   ·have s4:((c.toNat:Int)==((pcU j).toNat:Int))=false:=qcZ c _ _ rfl he
    have hP2:Hid (∀i,i<j+1→c≠pcU i):=fun i hi=>by
     by_cases e:i=j
     ·subst e;exact he
     ·exact hP.out i (by omega)
    clear I hP;go_wp2_with fail;go_roundg (gk - 1)
    case measure=>omega
    case rel=>exact⟨j+1,by omega,by omega,rfl,by go_num,hP2,hI1⟩
  ·obtain rfl:j=3:=by omega
   have t4:decide (3<3)=false:=rfl;have ho:Hid (acc++[c]=acc++qjY c):=by show _=_;rw[qpc c hP.out]
   go_wp2_with fail;refine(qrT w0 b N M hN hM acc c (by omega) _ I.out).mono ?_;rintro e w3 ⟨rfl,hI3,_⟩;rw[ho.out] at hI3;replace hI3:=Lh hI3;go_wp2_with fail;go_end0;exact⟨rfl,hI3.out⟩
theorem qoO (w w1:World) (h:Below ((w.alloc (.cells #[.int .i64 3] 3)).alloc (.cells #[.pointer none,.slice none 0 0] 80)).heap.size ((w.alloc (.cells #[.int .i64 3] 3)).alloc (.cells #[.pointer none,.slice none 0 0] 80)) w1):
 WrI w (w.heap.size+1) w1.heap.size w.heap.size [] (w1.alloc (.cells qeH 276)):=by
 have hsz:=h.size;simp at hsz;have hb:w1.heap[w.heap.size+1]?=some (.cells #[.pointer none,.slice none 0 0] 80 (0,0)):=(h.block (w.heap.size+1) (by simp)).trans (by have:=World.alloc_heap_new (w.alloc (.cells #[.int .i64 3] 3)) (.cells #[.pointer none,.slice none 0 0] 80);simpa using this);have hm:w1.heap[w.heap.size]?=some (.cells #[.int .i64 3] 3 (0,0)):=(h.block w.heap.size (by simp;omega)).trans ((Lib.alloc_old (w.alloc (.cells #[.int .i64 3] 3)) _ w.heap.size (by simp)).trans (World.alloc_heap_new _ _));have h1:BldK w.heap.size (w.heap.size+1) [] w1:= .of (.inl ⟨Nat.le_succ _,.slice none 0 0,hb,World.ownsRow_nil _ _ 5 1,by simp[Value.ownBlock]⟩);refine⟨⟨⟨h1.alloc _,World.alloc_heap_new _ _⟩,((((Below.refl _ _).alloc (Nat.le_refl _) _).alloc (by simp) _).trans (h.mono (by simp;omega))).alloc (by omega) _⟩,?_⟩;exact(Lib.alloc_old w1 _ w.heap.size (by omega)).trans hm
theorem qj4 (s:ByteArray) (hs:s.size≤65536) (u:ByteArray) (hu:u=⟨(quL s.data.toList).toArray⟩) (w:World):
 Calls Tryz.prog 171 #[.string s,.int .i64 3] w fun e w'=>e= .returned (.tuple #[.string u,.int .i64 0])∧Below w.heap.size w w':=by
 have hz:Hid (s.data.toList.length=s.size):=by show _=_;simp
 replace hu:=Lh hu;have t1:decide (65536<(s.size:Int))=false:=dF (by omega);go_enter Tryz.func171,Tryz.ntmps171;go_wp2_with fail;refine(qdz _).mono ?_;rintro e w1 ⟨rfl,hb1⟩;go_wp2_with fail;show Code.wp _ _ _ _ (w1.alloc (.cells qeH 276));have I:=Lh (qoO w w1 hb1);have hN:w1.heap.size≠w.heap.size+1:=by have:=hb1.size;simp at this;omega
 have hM:w.heap.size≠w.heap.size+1:=by omega
 clear hb1 t1;generalize w1.alloc (.cells qeH 276)=w2 at I⊢;generalize w1.heap.size=N at I hN⊢;go_loopg [17] (s.size+1) (fun g s17 wx=> ∃i:Nat,i+g=s.size+1∧s17= .int .i64 i∧i≤s.size∧Hid (WrI w (w.heap.size+1) N w.heap.size (quL (s.data.toList.take i)) wx))
 case atStart=>exact⟨0,by omega,rfl,by omega,I⟩
 case round=>
  clear I;obtain⟨i,hg,rfl,hi,I⟩:=hrel
  by_cases hlt:i<s.size
  ·have t2:decide (i<s.size)=true:=dT hlt;obtain⟨c,hc,hB⟩:=qra s i hlt
   have hq:Hid (quL (s.data.toList.take i)++qjY c=quL (s.data.toList.take (i+1))):=by
    show _=_;rw[List.take_add_one,List.getElem?_eq_getElem (by rw[hz.out];exact hlt),Option.toList_some,qmu,←hc.out,List.getD_eq_getElem?_getD,List.getElem?_eq_getElem (by rw[hz.out];exact hlt),Option.getD_some]
   have hql:=quL_len (s.data.toList.take i);have htl:(s.data.toList.take i).length≤i:=List.length_take_le _ _;have hput:=qnJ w (w.heap.size+1) N w.heap.size hN hM (quL (s.data.toList.take i)) c (by omega) wr I.out;rw[hq.out] at hput;replace hput:=Lh hput;clear hq hc I;go_wp2_with fail;refine hput.out.mono ?_;rintro e w3 ⟨rfl,hI⟩;replace hI:=Lh hI;clear hput;go_wp2_with fail;go_roundg (gk - 1)
   case measure=>omega
   case rel=>exact⟨i+1,by omega,by go_num,by omega,hI⟩
  ·obtain rfl:i=s.size:=by omega
   have t2:decide (s.size<s.size)=false:=dF (by omega);have I2:=I.out;rw[List.take_of_length_le (by rw[hz.out];exact Nat.le_refl _)] at I2;have hstr:=Lh (str_k w.heap.size (w.heap.size+1) _ u hu.out wr I2.1.1.1 I2.1.2.size);have hB:=Lh I2.1.2;clear I2 I;go_wp2_with fail;refine hstr.out.mono ?_;rintro e w3 ⟨rfl,_,hb,_⟩;have hB2:=Lh (hB.out.trans hb);clear hb hstr;go_wp2_with fail;go_ret2;exact⟨rfl,hB2.out⟩
theorem qh2 (s:ByteArray) (hs:s.size≤65536) (u:ByteArray) (hu:u=⟨(quL s.data.toList).toArray⟩) (w:World):
 Calls Tryz.prog 115 #[.string s] w fun e w'=>e= .returned (.tuple #[.string u,.int .i64 0])∧Below w.heap.size w w':=by
 have hc:=Lh (qj4 s hs u hu w);clear hu;go_enter Tryz.func115,Tryz.ntmps115;go_wp2_with fail;refine hc.out.mono ?_;rintro e w3 ⟨rfl,hb⟩;go_wp2_with fail;go_ret2;exact⟨rfl,hb⟩
theorem quote_of (s:ByteArray) (hs:s.size≤65536) (t:ByteArray) (ht:t=⟨(34::quL s.data.toList++[34]).toArray⟩) (w:World):
 Calls Tryz.prog 58 #[.string s] w fun e w'=>e= .returned (.tuple #[.string t,.int .i64 0])∧Below w.heap.size w w':=by
 obtain⟨u,hu⟩: ∃u:ByteArray,Hid (u=⟨(quL s.data.toList).toArray⟩):=⟨_,Lh rfl⟩
 have hul:u.size≤131072:=by
  rw[hu.out,qdE];have:=quL_len s.data.toList;have hz:s.data.toList.length=s.size:=by simp
  omega
 have ht2:Hid (t=(⟨#[34]⟩++u)++⟨#[34]⟩):=by
  show _=_;rw[ht,hu.out];apply ByteArray.ext;apply Array.ext';simp
 have hc:=Lh (qh2 s hs u hu.out w);clear hu ht;go_enter Tryz.func58,Tryz.ntmps58;go_wp2_with fail;refine hc.out.mono ?_;rintro e w3 ⟨rfl,hb⟩;go_wp2_with fail;go_ret2;exact⟨by rw[ht2.out];rfl,hb⟩
end Go.Proofs.YtdeimnnpcfncpaaGreatDoor.L
end
section
namespace Go.Proofs.YtdeimnnpcfncpaaGreatDoor.L
open Go.RowKit
def qg4 (x:Int):Prop:=0≤x∧x≤1114111∧(x<55296∨57343<x)
instance (x:Int):Decidable (qg4 x):=by unfold qg4;infer_instance
theorem qbo (n:Int) (h0:0≤n) (h1:n<256):IntKind.u8.wrap n=n:=by rw[IntKind.wrap_u8];omega
def b8 (n:Int):UInt8:=UInt8.ofNat n.toNat
theorem qb9 (n:Int) (h0:0≤n) (h1:n<256):Value.int .u8 n=qb2 (b8 n):=by
 unfold qb2 b8;rw[UInt8.toNat_ofNat'];congr 1;omega
def frm (x:Int):List UInt8:=
 if x<128 then [b8 x] else if x<2048 then [b8 (192+x/64),b8 (128+x%64)] else if x<65536 then [b8 (224+x/4096),b8 (128+x/64%64),b8 (128+x%64)] else [b8 (240+x/262144),b8 (128+x/4096%64),b8 (128+x/64%64),b8 (128+x%64)]
theorem qeu (w:World) (xs:List Value) (n:Nat) (hn:xs.length=n) (hpos:n≤1000):Row (w.alloc (.cells xs.toArray 5)) (.slice (some ⟨w.heap.size,0,none⟩) n n) xs:=by
 subst hn;refine .inr ⟨w.heap.size,0,xs.length,rfl,by simp,Nat.le_refl _,by unfold maxLen;omega,fun i hi=>?_⟩;simp[World.cell?,World.alloc,-World.alloc_eq,hi]
theorem qrk (x:Int) (hp:qg4 x) (w:World):
 Calls Tryz.prog 290 #[.int .i64 x] w fun e w'=>(∃v,e= .returned v∧Row w' v ((frm x).map qb2))∧Below w.heap.size w w':=by
 obtain⟨h0,hx,_⟩:=hp;rcases(show x<128∨(128≤x∧x<2048)∨(2048≤x∧x<65536)∨65536≤x by omega)with h1|⟨h1,h2⟩|⟨h1,h2⟩|h1
 ·have hcells:Hid ((frm x).map qb2=[.int .u8 (x)]):=by
   show _=_;unfold frm;rw[if_pos h1,qb9 (x) (by omega) (by omega)];rfl
  have q1:=qbo x (by omega) (by omega);go_enter Tryz.func290,Tryz.ntmps290;go_wp2_with fail;go_ret;refine⟨⟨_,rfl,?_⟩,(Below.refl _ _).alloc (Nat.le_refl _) _⟩;rw[hcells.out];exact qeu w _ 1 rfl (by omega)
 ·have hcells:Hid ((frm x).map qb2=[.int .u8 (192+x/64),.int .u8 (128+x%64)]):=by
   show _=_;unfold frm;rw[if_neg (by omega),if_pos h2,qb9 (192+x/64) (by omega) (by omega),qb9 (128+x%64) (by omega) (by omega)];rfl
  have q1:=qbo (192+x/64) (by omega) (by omega);have q2:=qbo (128+x%64) (by omega) (by omega);go_enter Tryz.func290,Tryz.ntmps290;go_wp2_with fail;go_ret;refine⟨⟨_,rfl,?_⟩,(Below.refl _ _).alloc (Nat.le_refl _) _⟩;rw[hcells.out];exact qeu w _ 2 rfl (by omega)
 ·have hcells:Hid ((frm x).map qb2=[.int .u8 (224+x/4096),.int .u8 (128+x/64%64),.int .u8 (128+x%64)]):=by
   show _=_;unfold frm;rw[if_neg (by omega),if_neg (by omega),if_pos h2,qb9 (224+x/4096) (by omega) (by omega),qb9 (128+x/64%64) (by omega) (by omega),qb9 (128+x%64) (by omega) (by omega)];rfl
  have q1:=qbo (224+x/4096) (by omega) (by omega);have q2:=qbo (128+x/64%64) (by omega) (by omega);have q3:=qbo (128+x%64) (by omega) (by omega);go_enter Tryz.func290,Tryz.ntmps290;go_wp2_with fail;go_ret;refine⟨⟨_,rfl,?_⟩,(Below.refl _ _).alloc (Nat.le_refl _) _⟩;rw[hcells.out];exact qeu w _ 3 rfl (by omega)
 ·have hcells:Hid ((frm x).map qb2=[.int .u8 (240+x/262144),.int .u8 (128+x/4096%64),.int .u8 (128+x/64%64),.int .u8 (128+x%64)]):=by
   show _=_;unfold frm;rw[if_neg (by omega),if_neg (by omega),if_neg (by omega),qb9 (240+x/262144) (by omega) (by omega),qb9 (128+x/4096%64) (by omega) (by omega),qb9 (128+x/64%64) (by omega) (by omega),qb9 (128+x%64) (by omega) (by omega)];rfl
  have q1:=qbo (240+x/262144) (by omega) (by omega);have q2:=qbo (128+x/4096%64) (by omega) (by omega);have q3:=qbo (128+x/64%64) (by omega) (by omega);have q4:=qbo (128+x%64) (by omega) (by omega);go_enter Tryz.func290,Tryz.ntmps290;go_wp2_with fail;go_ret;refine⟨⟨_,rfl,?_⟩,(Below.refl _ _).alloc (Nat.le_refl _) _⟩;rw[hcells.out];exact qeu w _ 4 rfl (by omega)
theorem qim (x:Int):1≤(frm x).length:=by unfold frm;(repeat' split)<;>simp
def gi (l:List UInt8) (i:Nat):Int:=((l.getD i 0).toNat:Int)
def qlD (l:List UInt8) (i:Nat):Bool:=(i==1&&!sec (gi l 0) (gi l i))||decide (gi l i<128)||decide (192≤gi l i)
def decl (l:List UInt8) (n i:Nat) (x:Int):Int×Int×Int:=
 if i<n then if i<l.length then if qlD l i then (0,0,11) else decl l n (i+1) (x*64+gi l i%64) else (0,0,10) else (x,(n:Int),0)
termination_by n - i
def dec (l:List UInt8):Int×Int×Int:=
 if l=[] then (0,0,6) else if hdn (gi l 0)=0 then (0,0,11) else decl l (hdn (gi l 0)) 1 (hdx (gi l 0))
theorem qcx (l:List UInt8) (n i:Nat) (x:Int) (h: ¬i<n):decl l n i x=(x,(n:Int),0):=by rw[decl,if_neg h]
theorem qhT (l:List UInt8) (n i:Nat) (x:Int) (h:i<n) (h2: ¬i<l.length):decl l n i x=(0,0,10):=by rw[decl,if_pos h,if_neg h2]
theorem qkG (l:List UInt8) (n i:Nat) (x:Int) (h:i<n) (h2:i<l.length) (h3:qlD l i=true):decl l n i x=(0,0,11):=by rw[decl,if_pos h,if_pos h2,if_pos h3]
theorem qbd (l:List UInt8) (n i:Nat) (x:Int) (h:i<n) (h2:i<l.length) (h3:qlD l i=false):decl l n i x=decl l n (i+1) (x*64+gi l i%64):=by rw[decl,if_pos h,if_pos h2,if_neg (by simp[h3])]
theorem qdh (s:ByteArray) (k i:Nat):byt s (k+i)=gi (s.data.toList.drop k) i:=by
 unfold byt gi;simp[List.getD_eq_getElem?_getD,List.getElem?_drop]
theorem qcq (s:ByteArray):s.size=s.data.toList.length:=by simp
theorem qmd (s:ByteArray) (k n:Nat): ∀(m i:Nat) (x:Int),m=n - i→rdl s k n i x=decl (s.data.toList.drop k) n i x:=by
 intro m;have hl:(s.data.toList.drop k).length=s.size - k:=by rw[List.length_drop,qcq]
 have h0:byt s k=gi (s.data.toList.drop k) 0:=by have:=qdh s k 0;simpa using this
 have hb: ∀i,qcg s k i=qlD (s.data.toList.drop k) i:=fun i=>by unfold qcg qlD;rw[qdh,h0]
 induction m with
 |zero=>intro i x hm;rw[qf3 _ _ _ _ _ (by omega),qcx _ _ _ _ (by omega)]
 |succ m ih=>
  intro i x hm
  by_cases hs:k+i<s.size
  ·cases hc:qcg s k i with
   |true=>rw[qeq _ _ _ _ _ (by omega) hs hc,qkG _ _ _ _ (by omega) (by omega) (by rw[←hb,hc])]
   |false=>rw[qdf _ _ _ _ _ (by omega) hs hc,qbd _ _ _ _ (by omega) (by omega) (by rw[←hb,hc]),qdh,ih _ _ (by omega)]
  ·rw[qdT _ _ _ _ _ (by omega) hs,qhT _ _ _ _ (by omega) (by omega)]
theorem rd_dec (s:ByteArray) (k:Nat) (h:k≤s.size):rd s k=dec (s.data.toList.drop k):=by
 have hl:(s.data.toList.drop k).length=s.size - k:=by rw[List.length_drop,qcq]
 have h0:byt s k=gi (s.data.toList.drop k) 0:=by have:=qdh s k 0;simpa using this
 unfold rd dec;rw[if_neg (by omega)]
 by_cases he:k=s.size
 ·rw[if_pos (by omega),if_pos (List.eq_nil_of_length_eq_zero (by omega))]
 ·rw[if_neg (by omega),if_neg (show¬s.data.toList.drop k=[] from fun hn=>by rw[hn] at hl;simp at hl;omega)];rw[show(k:Int).toNat=k from Int.toNat_natCast k,qmd s k _ _ 1 _ rfl,h0]
theorem qbT (n:Int) (h0:0≤n) (h1:n<256):((b8 n).toNat:Int)=n:=by
 unfold b8;rw[UInt8.toNat_ofNat'];omega
theorem qgu (f c:Int) (h0:128≤c) (h1:c<192) (h2:f=224→160≤c) (h3:f=237→c<160) (h4:f=240→144≤c) (h5:f=244→c<144):sec f c=true:=by
 unfold sec;rw[if_neg (by omega)]
 split
 ·simp;exact h2 ‹_›
 ·split
  ·simp;exact h3 ‹_›
  ·split
   ·simp;exact h4 ‹_›
   ·split
    ·simp;exact h5 ‹_›
    ·rfl
theorem qp6 (f c:Int) (h:sec f c=true):128≤c∧c<192∧(f=224→160≤c)∧(f=237→c<160)∧(f=240→144≤c)∧(f=244→c<144):=by
 unfold sec at h
 split at h
 ·cases h
 ·split at h
  ·simp at h;omega
  ·split at h
   ·simp at h;omega
   ·split at h
    ·simp at h;omega
    ·split at h
     ·simp at h;omega
     ·omega
theorem qeB (l:List UInt8) (h:sec (gi l 0) (gi l 1)=true):qlD l 1=false:=by
 have:=qp6 _ _ h;unfold qlD;rw[h,dF (by omega),dF (by omega)];rfl
theorem qgp (l:List UInt8) (i:Nat) (hi:i≠1) (h1:128≤gi l i) (h2:gi l i<192):qlD l i=false:=by
 unfold qlD;rw[dF (by omega),dF (by omega)];simp[hi]
theorem qou (x:Int) (hp:qg4 x) (t:List UInt8):dec (frm x++t)=(x,((frm x).length:Int),0):=by
 obtain⟨h0,h1,h2⟩:=hp;unfold frm
 split
 ·rename_i c
  unfold dec;rw[if_neg (by simp)];have g0:gi ([b8 x]++t) 0=x:=qbT _ (by omega) (by omega);rw[g0,show hdn x=1 by unfold hdn;rw[if_pos c],if_neg (by omega),qcx _ _ _ _ (by omega),show hdx x=x by unfold hdx;rw[if_pos c]];rfl
 ·split
  ·rename_i c c2
   unfold dec;rw[if_neg (by simp)];have g0:gi ([b8 (192+x/64),b8 (128+x%64)]++t) 0=192+x/64:=qbT _ (by omega) (by omega);have g1:gi ([b8 (192+x/64),b8 (128+x%64)]++t) 1=128+x%64:=qbT _ (by omega) (by omega);rw[g0,show hdn (192+x/64)=2 by unfold hdn;(repeat' split)<;>omega,if_neg (by omega),show hdx (192+x/64)=x/64 by unfold hdx;(repeat' split)<;>omega];rw[qbd _ _ _ _ (by omega) (by simp) (qeB _ (by rw[g0,g1];apply qgu<;>omega)),qcx _ _ _ _ (by omega),g1];rw[show x/64*64+(128+x%64)%64=x by omega];rfl
  ·split
   ·rename_i c c2 c3
    unfold dec;rw[if_neg (by simp)];have g0:gi ([b8 (224+x/4096),b8 (128+x/64%64),b8 (128+x%64)]++t) 0=224+x/4096:=qbT _ (by omega) (by omega);have g1:gi ([b8 (224+x/4096),b8 (128+x/64%64),b8 (128+x%64)]++t) 1=128+x/64%64:=qbT _ (by omega) (by omega);have g2:gi ([b8 (224+x/4096),b8 (128+x/64%64),b8 (128+x%64)]++t) 2=128+x%64:=qbT _ (by omega) (by omega);rw[g0,show hdn (224+x/4096)=3 by unfold hdn;(repeat' split)<;>omega,if_neg (by omega),show hdx (224+x/4096)=x/4096 by unfold hdx;(repeat' split)<;>omega];rw[qbd _ _ _ _ (by omega) (by simp) (qeB _ (by rw[g0,g1];apply qgu<;>omega)),qbd _ _ _ _ (by omega) (by simp) (qgp _ 2 (by omega) (by omega) (by omega)),qcx _ _ _ _ (by omega),g1,g2];rw[show(x/4096*64+(128+x/64%64)%64)*64+(128+x%64)%64=x by omega];rfl
   ·rename_i c c2 c3
    unfold dec;rw[if_neg (by simp)];have g0:gi ([b8 (240+x/262144),b8 (128+x/4096%64),b8 (128+x/64%64),b8 (128+x%64)]++t) 0=240+x/262144:=qbT _ (by omega) (by omega);have g1:gi ([b8 (240+x/262144),b8 (128+x/4096%64),b8 (128+x/64%64),b8 (128+x%64)]++t) 1=128+x/4096%64:=qbT _ (by omega) (by omega);have g2:gi ([b8 (240+x/262144),b8 (128+x/4096%64),b8 (128+x/64%64),b8 (128+x%64)]++t) 2=128+x/64%64:=qbT _ (by omega) (by omega);have g3:gi ([b8 (240+x/262144),b8 (128+x/4096%64),b8 (128+x/64%64),b8 (128+x%64)]++t) 3=128+x%64:=qbT _ (by omega) (by omega);rw[g0,show hdn (240+x/262144)=4 by unfold hdn;(repeat' split)<;>omega,if_neg (by omega),show hdx (240+x/262144)=x/262144 by unfold hdx;(repeat' split)<;>omega];rw[qbd _ _ _ _ (by omega) (by simp) (qeB _ (by rw[g0,g1];apply qgu<;>omega)),qbd _ _ _ _ (by omega) (by simp) (qgp _ 2 (by omega) (by omega) (by omega)),qbd _ _ _ _ (by omega) (by simp) (qgp _ 3 (by omega) (by omega) (by omega)),qcx _ _ _ _ (by omega),g1,g2,g3];rw[show((x/262144*64+(128+x/4096%64)%64)*64+(128+x/64%64)%64)*64+(128+x%64)%64=x by omega];rfl
theorem qnE {l:List UInt8} (h:l≠[]):1≤l.length:=by
 cases l with
 |nil=>exact absurd rfl h
 |cons=>simp
end Go.Proofs.YtdeimnnpcfncpaaGreatDoor.L
end
section
namespace Go.Proofs.YtdeimnnpcfncpaaGreatDoor.L
open Go Go.RowKit
def qfw (L:List Int):List UInt8:=(L.map frm).flatten
theorem qdv (x:Int) (L:List Int):qfw (x::L)=frm x++qfw L:=by simp[qfw]
theorem qmw (L M:List Int):qfw (L++M)=qfw L++qfw M:=by simp[qfw]
theorem qqc (s:ByteArray) (A t:List UInt8) (h:s.data.toList=A++t):rd s (A.length:Nat)=dec t:=by
 have hs:=qcq s;rw[rd_dec s A.length (by rw[hs,h];simp),h];simp
theorem qkg (s:ByteArray) (t:List UInt8) (hd:(dec t).2.2≠0): ∀(L:List Int) (A:List UInt8) (f:Nat),(∀x∈L,qg4 x)→s.data.toList=A++(qfw L++t)→s.size - A.length<f→
 ckf s f A.length=(((A++qfw L).length:Int),if t=[] then 0 else (dec t).2.2):=by
 intro L;have hsz:=qcq s
 induction L with
 |nil=>
  intro A f _ hs hf;obtain⟨f,rfl⟩: ∃g,f=g+1:=⟨f - 1,by omega⟩;have hs':s.data.toList=A++t:=hs;rw[ckf,qqc s A t hs']
  by_cases ht:t=[]
  ·subst ht;rw[if_neg (by rw[hsz,hs'];simp),if_pos rfl];simp[qfw]
  ·have:=qnE ht;rw[if_pos (by rw[hsz,hs'];simp;omega),if_neg hd,if_neg ht];simp[qfw]
 |cons x L ih=>
  intro A f hg hs hf;obtain⟨f,rfl⟩: ∃g,f=g+1:=⟨f - 1,by omega⟩;have hp:=qim x;have hs':s.data.toList=A++(frm x++(qfw L++t)):=by rw[hs,qdv,List.append_assoc]
  have hlen:A.length+(frm x).length≤s.size:=by rw[hsz,hs'];simp
  rw[ckf,qqc s A _ hs',qou x (hg x (by simp)),if_pos (by omega),if_pos rfl];have:=ih (A++frm x) f (fun y hy=>hg y (by simp[hy])) (by rw[hs',List.append_assoc]) (by rw[List.length_append];omega);rw[List.length_append] at this;rw[show A.length+((frm x).length:Int).toNat=A.length+(frm x).length by omega,this,qdv,List.append_assoc]
theorem ql1 (s:ByteArray) (L:List Int) (t:List UInt8) (hL: ∀x∈L,qg4 x) (hs:s.data.toList=qfw L++t) (hd:(dec t).2.2≠0):ck s=(((qfw L).length:Int),if t=[] then 0 else (dec t).2.2):=
 qkg s t hd L [] (s.size+1) hL hs (by simp)
def good (l:List UInt8):Prop:= ∃L:List Int,(∀x∈L,qg4 x)∧l=qfw L
theorem qlS:good []:=⟨[],(fun x hx=>by cases hx),rfl⟩
theorem qha {l r:List UInt8} (h:good l) (k:good r):good (l++r):=by
 obtain⟨L,h1,rfl⟩:=h;obtain⟨M,k1,rfl⟩:=k;refine⟨L++M,fun x hx=>?_,(qmw L M).symm⟩;rw[List.mem_append] at hx;rcases hx with hx|hx
 ·exact h1 x hx
 ·exact k1 x hx
theorem qg9 (x:Int) (h:qg4 x):good (frm x):=⟨[x],fun y hy=>by simp at hy;subst hy;exact h,by simp[qfw]⟩
theorem vld_good (s:ByteArray) (h:good s.data.toList):((ck s).2==0)=true:=by
 obtain⟨L,h1,h2⟩:=h;have:=ql1 s L [] h1 (by rw[List.append_nil];exact h2) (by decide+kernel);rw[this];rfl
theorem qpo (x:Int) (h:qg4 x):Lib.encodeRune x=frm x:=by
 obtain⟨h0,h1,h2⟩:=h;unfold Lib.encodeRune Lib.encodeRuneZ frm
 by_cases a:x<128
 ·rw[if_pos a,if_pos (by omega)];rfl
 ·rw[if_neg a,if_neg (by omega)]
  by_cases b:x<2048
  ·rw[if_pos b,if_pos (by omega)];rfl
  ·rw[if_neg b,if_neg (by omega)]
   by_cases c:x<65536
   ·rw[if_pos c,if_pos (by omega)];rfl
   ·rw[if_neg c,if_neg (by omega),if_pos (by omega)];rfl
theorem qkn (l:List UInt8):qg4 ((Lib.decodeL l).1:Int):=by
 rw[Lib.decodeL_N];have:=Lib.decodeN_valid l.length (l.getD 0 0).toNat (l.getD 1 0).toNat (l.getD 2 0).toNat (l.getD 3 0).toNat (l.getD 0 0).toNat_lt;unfold qg4;omega
theorem qfa (l:List UInt8) (hne:l≠[]) (hv: ¬((Lib.decodeL l).1=65533∧(Lib.decodeL l).2=1)):good (l.take (Lib.decodeL l).2):=by
 rw[←Lib.encode_decode l hne hv,qpo _ (qkn l)];exact qg9 _ (qkn l)
theorem qfn (c:UInt8) (h:c.toNat<128):good [c]:=by
 have h2:qg4 (c.toNat:Int):=by unfold qg4;omega
 have:=qg9 _ h2;unfold frm at this;rw[if_pos (by omega)] at this;rw[show b8 (c.toNat:Int)=c by unfold b8;simp] at this;exact this
def gq (l:List UInt8):Prop:=good l∧ ∀c∈l,c≠92
theorem qqn:gq []:=⟨qlS,fun c hc=>by cases hc⟩
theorem qiR {l r:List UInt8} (h:gq l) (k:gq r):gq (l++r):=⟨qha h.1 k.1,fun c hc=>by
 rcases List.mem_append.1 hc with hc|hc
 ·exact h.2 c hc
 ·exact k.2 c hc⟩
theorem qsJ:gq [63]:=⟨qfn 63 (by decide),by decide⟩
theorem qk6 (x:Int) (hx:qg4 x) (c:UInt8) (t:List UInt8) (h:frm x=c::t) (hc:c.toNat<128):t=[]:=by
 obtain⟨h0,h1,h2⟩:=hx;unfold frm at h
 split at h
 ·exact(List.cons.inj h).2.symm
 ·exfalso
  have key: ∀n:Int,128≤n→n<256→b8 n=c→False:=fun n a b e=>by
   have:=qbT n (by omega) b;rw[e] at this;omega
  split at h
  ·exact key _ (by omega) (by omega) (List.cons.inj h).1
  ·split at h
   ·exact key _ (by omega) (by omega) (List.cons.inj h).1
   ·exact key _ (by omega) (by omega) (List.cons.inj h).1
theorem good_tail {c:UInt8} {t:List UInt8} (h:good (c::t)) (hc:c.toNat<128):good t:=by
 obtain⟨L,h1,h2⟩:=h
 cases L with
 |nil=>simp[qfw] at h2
 |cons x L=>
  have hx:=h1 x (List.mem_cons_self ..);rw[qdv] at h2
  cases hf:frm x with
  |nil=>have:=qim x;rw[hf] at this;simp at this
  |cons d r=>
   rw[hf,List.cons_append] at h2;obtain⟨rfl,e⟩:=List.cons.inj h2;have:=qk6 x hx _ r hf hc;subst this;exact⟨L,fun y hy=>h1 y (List.mem_cons_of_mem _ hy),by simpa using e⟩
end Go.Proofs.YtdeimnnpcfncpaaGreatDoor.L
end
section
namespace Go.Proofs.YtdeimnnpcfncpaaGreatDoor.L
open Go.RowKit
theorem qcU (s:ByteArray) (i j:Nat):(s.extract i j).data.toList=(s.data.toList.drop i).take (j - i):=by
 rw[ByteArray.data_extract,Array.toList_extract,List.extract_eq_take_drop]
end Go.Proofs.YtdeimnnpcfncpaaGreatDoor.L
end
section
namespace Go.Proofs.YtdeimnnpcfncpaaGreatDoor.L
open Go Go.RowKit Go.Shelf
theorem qpt (s:ByteArray) (i:Nat):(s.extract 0 i).data.toList=s.data.toList.take i:=by simp
abbrev U8 (w:World):Prop:=Lib.Utf8Tabs 2 3 w
theorem U8.on {w w':World} (h:U8 w) (h4:4<w.heap.size) (hb:Below w.heap.size w w'):U8 w':=
 ⟨fun c hc=>(hb.cell (p:=⟨2,c,none⟩) (by show 2<_;omega)).trans (h.1 c hc),fun i hi=>⟨(hb.cell (p:=⟨3,2*i,none⟩) (by show 3<_;omega)).trans (h.2 i hi).1,(hb.cell (p:=⟨3,2*i+1,none⟩) (by show 3<_;omega)).trans (h.2 i hi).2⟩⟩
theorem qiY (s:ByteArray) (pos:Nat) (hlt:pos<s.size) (R K:Nat) (h:Utf8.decode s pos=(R,K)) (w:World) (hT:U8 w):
 Calls Tryz.prog 97 #[.string (s.extract pos s.size)] w fun e w'=>e= .returned (.tuple #[.int .i32 R,.int .i64 K])∧Below w.heap.size w w':=by
 have h1:=Tryz.utf8_DecodeRuneInString (s.extract pos s.size) w hT
 have h2:Lib.decodeGo (s.extract pos s.size)=(R,K):=by
  unfold Lib.decodeGo;rw[if_neg (by rw[ByteArray.size_extract];omega),Lib.tail_decode,Nat.add_zero];exact h
 rw[h2] at h1;exact h1
theorem qhf (b:Nat) (p:Option Addr) (n cap:Nat) (w:World) (c1:w.cell? ⟨b,1,none⟩=some (.slice p n cap)):
 Calls Tryz.prog 98 #[.pointer (some ⟨b,0,none⟩)] w fun e w'=>e= .returned (.int .i64 cap)∧w=w':=by
 go_enter Tryz.func98,Tryz.ntmps98;go_wp2_with fail;go_ret;exact⟨rfl,rfl⟩
theorem qr8 (B b:Nat) (s:ByteArray) (hl:s.size<1000000) (w:World) (h:Lib.BuilderAt 80 5 B b (.pointer (some ⟨b,0,none⟩)) [] w) (hBw:B≤w.heap.size) (v0:Value) (hv0:w.cell? ⟨b,1,none⟩=some v0) (hcap:1≤v0.capOf):
 Calls Tryz.prog 38 #[.pointer (some ⟨b,0,none⟩),.string s] w fun e w'=>e= .returned (.tuple #[.int .i64 s.size,.nilIface])∧BldK B b s.data.toList w'∧Below B w w'∧ ∃p n cap,w'.cell? ⟨b,1,none⟩=some (.slice p n cap)∧1≤cap:=by
 obtain⟨i0,hi,hz0,hz1,hz2⟩:=qkq;have hF:Lib.IsBuilderF 80 5 B b (Lib.byteCells []) w:= .of (.inr h);have hc0:=h.cell0;have hcall:=Lh (qjx b w hc0);obtain⟨hB,v,hbk,hown1,hne⟩:=h
 obtain rfl:v=v0:=by
  rw[Lib.cell_of_heap hbk] at hv0;exact Option.some.inj hv0
 have hown0:w.ownsRowF B 5 1 v (Lib.byteCells []).length (Lib.byteCells []):=by
  rcases hF with hF|hF
  ·obtain⟨_,v',hb',_⟩:=hF;rw[hbk] at hb';simp at hb'
  ·obtain⟨_,v',hb',ho',_⟩:=hF;rw[hbk] at hb';simp at hb';rw[hb'];exact ho'
 have hown:=Lh hown0;have hlt:b<w.heap.size:=(Array.getElem?_eq_some_iff.1 hbk).1;have hlen:Hid ((Lib.byteCells ([]:List UInt8)).length=0):=Lh rfl;have HBK:=Lh hbk;have f1:w.frozen? ⟨b,1,none⟩=false:=Lib.frozen_of_heap hbk 1;replace hcap:=Lh hcap;clear hown0 hown1 hF hbk;go_enter Tryz.func38,Tryz.ntmps38;go_wp2_with fail;refine hcall.out.mono ?_;rintro e w1 ⟨rfl,rfl⟩;clear hcall;go_wp2_with (at_builtin;go_must (refine Lib.wpList_append_own_stringF_cap _ rfl (.tmp 12) (.tmp 13) 78 9 rfl B 5 i0 Tryz.underlying78 Tryz.underlying9 hi hz0 hz1 hz2 v _ _ rfl hown.out s rfl ?c3 ?c4 ?c5 ?_))
 case c3=>rw[hlen.out];unfold maxLen;omega
 case c4=>rw[hlen.out];omega
 case c5=>omega
 intro v2 w2 hown2 hgrow _ hcap2;obtain⟨⟨ad,n2,cap,rfl⟩,hb2,R1,R2,R3⟩:=qdD (p:=s.data.toList) (l:=[]) (w:=w1) hB HBK.out hne (fun _ _=>rfl) (Nat.le_refl _) hgrow (Below.refl _ _) (Lib.OthersKept.refl _ _ _) hown.out (by rw[hlen.out];simp) hown2 (by omega);have d0:w2.cell? ⟨b,0,none⟩=some (.pointer (some ⟨b,0,none⟩)):=by rw[Lib.cell_of_heap hb2];rfl
 have d1:w2.cell? ⟨b,1,none⟩=some v:=by rw[Lib.cell_of_heap hb2];rfl
 have f1:w2.frozen? ⟨b,1,none⟩=false:=Lib.frozen_of_heap hb2 1
 have hbn:(w2.setCell ⟨b,1,none⟩ (.slice ad n2 cap)).heap[b]?=some (.cells #[.pointer (some ⟨b,0,none⟩),.slice ad n2 cap] 80 (0,0)):=by
  unfold World.setCell;simp[Array.getElem?_modify,hb2]
 have hce:(w2.setCell ⟨b,1,none⟩ (.slice ad n2 cap)).cell? ⟨b,1,none⟩=some (.slice ad n2 cap):=by rw[Lib.cell_of_heap hbn];rfl
 have hc1:1≤cap:=Nat.le_trans hcap.out hcap2;have R:=Lh (show _∧_∧ ∃p n c,(w2.setCell ⟨b,1,none⟩ (.slice ad n2 cap)).cell? ⟨b,1,none⟩=some (.slice p n c)∧1≤c from⟨R1,R2,_,_,_,hce,hc1⟩);clear R1 R2 R3 hown2 hgrow hb2 hcap2 hce hbn;go_wp2_with fail;go_ret2;exact⟨rfl,R.out⟩
def qsw (s:ByteArray) (w:World) (e:Ending) (w':World):Prop:=(∃u:ByteArray,e= .returned (.string u)∧gq u.data.toList∧u.size≤2*s.size)∧Below w.heap.size w w'
theorem qhs {B b:Nat} {p:Value} {bs:List Value} {w w':World} (h:Lib.BuilderAtF 80 5 B b p bs w) (hb:Below w.heap.size w w'):Lib.BuilderAtF 80 5 B b p bs w':=by
 obtain⟨hB,v,h1,hown,hne⟩:=h;refine⟨hB,v,(hb.block b (Array.getElem?_eq_some_iff.1 h1).1).trans h1,⟨hown.1,?_⟩,hne⟩;rcases hown.2 with h2|⟨g,cap,cur,fz,hv,hbg,hg,rest⟩
 ·exact .inl h2
 ·exact .inr ⟨g,cap,cur,fz,hv,hbg,(hb.block g (Array.getElem?_eq_some_iff.1 hg).1).trans hg,rest⟩
theorem bld_below {B b:Nat} {l:List UInt8} {w w':World} (h:BldK B b l w) (hb:Below w.heap.size w w'):BldK B b l w':=by
 rcases h with h|h
 ·exact .inl (qhs h hb)
 ·exact .inr (qhs h hb)
def TvI (w:World) (s:ByteArray) (pos:Nat) (W:World):Prop:=
 W.heap[w.heap.size]?=some (.cells #[.pointer none,.slice none 0 0] 80 (0,0))∧W.heap[w.heap.size+1]?=some (.stringIter s pos)∧Below w.heap.size w W∧gq (s.data.toList.take pos)
theorem TvI.next {w:World} {s:ByteArray} {pos p2:Nat} {W:World} (h:TvI w s pos W) (hg:gq (s.data.toList.take p2)):TvI w s p2 (W.iterAt (w.heap.size+1) s p2):=by
 obtain⟨h1,h2,h3,_⟩:=h;exact⟨(Lib.iterAt_other W _ _ s p2 (by omega)).trans h1,Lib.iterAt_heap W _ s pos p2 h2,Lib.below_iterAt h3 (by omega) s p2,hg⟩
theorem TvI.on {w:World} {s:ByteArray} {pos:Nat} {W W':World} (h:TvI w s pos W) (hb:Below W.heap.size W W'):TvI w s pos W':=by
 obtain⟨h1,h2,h3,h4⟩:=h;exact⟨(hb.block _ (Array.getElem?_eq_some_iff.1 h1).1).trans h1,(hb.block _ (Array.getElem?_eq_some_iff.1 h2).1).trans h2,h3.trans (hb.mono h3.size),h4⟩
theorem qi6 (s:ByteArray) (pos:Nat) (hlt:pos<s.size) (R K:Nat) (hd:Utf8.decode s pos=(R,K)) (hv: ¬(R=65533∧K=1)) (hg:good (s.data.toList.take pos)):good (s.data.toList.take (pos+K)):=by
 have hne:s.data.toList.drop pos≠[]:=by
  intro h;have:=congrArg List.length h;rw[List.length_drop] at this;simp at this;omega
 have h:=qfa _ hne (by rw[Lib.decodeL_drop,hd];exact hv);rw[Lib.decodeL_drop,hd] at h;rw[List.take_add];exact qha hg h
theorem qnM (s:ByteArray) (h: ∀c∈s.data.toList,c≠92) {p:Nat} (hg:good (s.data.toList.take p)):gq (s.data.toList.take p):=⟨hg,fun c hc=>h c (List.mem_of_mem_take hc)⟩
theorem qkh (s:ByteArray) (pos:Nat) (hlt:pos<s.size) (R K:Nat) (hd:Utf8.decode s pos=(R,K)):1≤K∧pos+K≤s.size:=by
 have hne:s.data.toList.drop pos≠[]:=by
  intro h;have:=congrArg List.length h;rw[List.length_drop] at this;simp at this;omega
 have h1:=Lib.decode_width_pos s pos hlt;have h2:=Lib.decodeL_le _ hne;rw[Lib.decodeL_drop,hd,List.length_drop] at h2;rw[hd] at h1;simp at h1 h2;omega
theorem tov_any (s:ByteArray) (hs:s.size≤1000) (h92': ∀c∈s.data.toList,c≠92) (w:World) (hT:U8 w) (hbig:4<w.heap.size):Calls Tryz.prog 41 #[.string s,.string ⟨#[63]⟩] w (qsw s w):=by
 have I0:Hid (TvI w s 0 ((w.alloc (.cells #[.pointer none,.slice none 0 0] 80)).iter s 0)):=by
  have h2:=World.iter_heap (w.alloc (.cells #[.pointer none,.slice none 0 0] 80)) s 0;rw[World.size_alloc] at h2;exact⟨(Lib.alloc_old _ _ _ (by simp)).trans (World.alloc_heap_new _ _),h2,((Below.refl _ _).alloc (Nat.le_refl _) _).alloc (by simp) _,by rw[List.take_zero];exact qqn⟩
 replace hT:=Lh (fun (W:World) (h:Below w.heap.size w W)=>hT.on hbig h);have h92:=Lh h92';clear h92' hbig;have hz:Hid (s.data.toList.length=s.size):=by show _=_;simp
 go_enter Tryz.func41,Tryz.ntmps41;go_wp2_with fail;generalize (w.alloc (.cells #[.pointer none,.slice none 0 0] 80)).iter s 0=W0 at I0⊢;go_loopg [0] (s.size+1) (fun g s0 wx=> ∃pos:Nat,pos≤s.size∧s.size - pos<g∧s0= .string s∧Hid (TvI w s pos wx))
 case atStart=>exact⟨0,by omega,by omega,rfl,I0⟩
 case round=>
  clear I0;obtain⟨pos,hp,hg,rfl,I⟩:=hrel;have hit:=I.out.2.1
  by_cases hlt:pos<s.size
  ·have hnx: ∀ty,(Instr.next (.pointer (some ⟨w.heap.size+1,0,none⟩)) true ty).run Tryz.prog wr=_:=fun ty=>Lib.run_next_any_at wr (w.heap.size+1) s pos ty hit hlt
   obtain⟨R,K,hd⟩: ∃R K,Hid (Utf8.decode s pos=(R,K)):=⟨_,_,Lh rfl⟩;rw[hd.out] at hnx;simp only at hnx;obtain⟨hw1,hw2⟩:=qkh s pos hlt R K hd.out
   by_cases hv:R=65533∧K=1
   ·obtain⟨rfl,rfl⟩:=hv;have I2:Hid (TvI w s (pos+1) (wr.iterAt (w.heap.size+1) s (pos+1))∨True):=Lh (.inr trivial);clear I2;obtain⟨J1,J2,J3,J4⟩:=I.out;have JB:=Lh (Lib.below_iterAt J3 (show w.heap.size≤w.heap.size+1 by omega) s (pos+1));have JF:=Lh ((Lib.iterAt_other wr (w.heap.size+1) w.heap.size s (pos+1) (by omega)).trans J1);have JG:=Lh J4;have hdc:=Lh (qiY s pos hlt _ 1 hd.out (wr.iterAt (w.heap.size+1) s (pos+1)) (hT.out _ JB.out));have hlt0:Hid (w.heap.size<(wr.iterAt (w.heap.size+1) s (pos+1)).heap.size):=Lh (Array.getElem?_eq_some_iff.1 JF.out).1;have t2:decide (pos≤s.size)=true:=dT (by omega);clear hit hd I J1 J2 J3 J4;go_wp2_with fail;refine hdc.out.mono ?_;rintro e w2 ⟨rfl,hb⟩;replace JF:=Lh ((hb.block w.heap.size hlt0.out).trans JF.out);replace JB:=Lh (JB.out.trans (hb.mono JB.out.size));have hgr:=Any.Builder_Grow_fresh_cap Tryz.lays165 Tryz.Builder_Extra_165 w.heap.size w.heap.size (s.size+1) w2 (Nat.le_refl _) JF.out JB.out.size (by omega);rw[show((s.size+1:Nat):Int)=(s.size:Int)+1 from rfl] at hgr;replace hgr:=Lh hgr;clear hdc hb hlt0 hnx;go_wp2_with fail;refine(hgr.out).mono ?_;rintro e w3 ⟨rfl,⟨hbl,hb⟩,p,cap,hc1,hcap⟩;replace JB:=Lh (JB.out.trans hb);have hws:=Lh (qr8 w.heap.size w.heap.size (s.extract 0 pos) (by rw[ByteArray.size_extract];omega) w3 hbl JB.out.size _ hc1 (show 1≤cap by omega));clear hgr hb hbl hc1 hcap JF;go_wp2_with fail;refine(hws.out).mono ?_;rintro e w4 ⟨rfl,hbl,hb,p2,n2,cap2,hc2,hcap2⟩;replace JB:=Lh (JB.out.trans hb);have hcp:=Lh (qhf w.heap.size p2 n2 cap2 w4 hc2);have t5:((cap2:Int)==0)=false:=by simp;omega
    rw[qpt] at hbl;replace hbl:=Lh hbl;clear hws hb hc2;go_wp2_with fail;refine(hcp.out).mono ?_;rintro e w5 ⟨rfl,rfl⟩;clear hcp;obtain⟨s2,hs2⟩: ∃s2,Hid (s.extract pos s.size=s2):=⟨_,Lh rfl⟩;have hz2:s2.size+pos≤s.size:=by rw[←hs2.out,ByteArray.size_extract];omega
    have hs2':=hs2.out
    have h2n:Hid (∀c∈s2.data.toList,c≠92):=Lh (by
     rw[←hs2.out,qcU]
     exact fun c hc=>h92.out c (List.mem_of_mem_drop (List.mem_of_mem_take hc)))
    go_wp2_with fail;clear hs2' t5 hw1 hw2 t2;go_loopg [10,11] (s2.size+1) (fun g s10 s11 wx=> ∃(i:Nat) (b:Bool) (acc:List UInt8),i≤s2.size∧s2.size - i<g∧s10= .bool b∧s11= .int .i64 i∧acc.length≤pos+2*i∧Hid (BldK w.heap.size w.heap.size acc wx)∧Hid (Below w.heap.size w wx)∧Hid (gq acc))
    case atStart=>exact⟨0,false,s.data.toList.take pos,by omega,by omega,rfl,rfl,by rw[List.length_take];omega,hbl,JB,JG⟩
    case round=>
     clear hbl JB JG;obtain⟨i,b,acc,hi,hg2,rfl,rfl,hal,hbl,JB,JG⟩:=hrel
     by_cases hlt2:i<s2.size
     ·have t3:decide (i<s2.size)=true:=dT hlt2;obtain⟨c,hc,hB⟩:=qra s2 i hlt2
      by_cases h128:c.toNat<128
      ·have t4:decide ((c.toNat:Int)<128)=true:=dT (by omega);have hwb:=Lh (qrV w.heap.size w.heap.size acc c (by omega) wr hbl.out JB.out.size)
       have hcm:c∈s2.data.toList:=by
        rw[←hc.out,List.getD_eq_getElem?_getD,List.getElem?_eq_getElem (by simpa using hlt2),Option.getD_some];exact List.getElem_mem _
       have hg3:=Lh (qiR JG.out ⟨qfn c h128,fun x hx=>by rw[List.mem_singleton] at hx;rw[hx];exact h2n.out c hcm⟩);clear hcm;clear hc hbl JG;go_wp2_with fail;refine(hwb.out).mono ?_;rintro e w6 ⟨rfl,hbl,hb,_⟩;replace hbl:=Lh hbl;replace JB:=Lh (JB.out.trans hb);clear hwb hb;go_wp2_with fail;go_roundg (gk - 1)
       case measure=>omega
       case rel=>exact⟨i+1,false,_,by omega,by omega,rfl,by go_num,by simp;omega,hbl,JB,hg3⟩
      ·have t4:decide ((c.toNat:Int)<128)=false:=dF (by omega);obtain⟨R,K,hd⟩: ∃R K,Hid (Utf8.decode s2 i=(R,K)):=⟨_,_,Lh rfl⟩;obtain⟨hw1,hw2⟩:=qkh s2 i hlt2 R K hd.out;have hdc:=Lh (qiY s2 i hlt2 R K hd.out wr (hT.out _ JB.out));have t5:decide (i≤s2.size)=true:=dT (by omega)
       by_cases hK:K=1
       ·subst hK;clear hd hc
        cases b with
        |true=>
         go_wp2_with fail;refine(hdc.out).mono ?_;rintro e w6 ⟨rfl,hb⟩;replace hbl:=Lh (bld_below hbl.out hb);replace JB:=Lh (JB.out.trans (hb.mono JB.out.size));clear hdc hb;go_wp2_with fail;go_roundg (gk - 1)
         case measure=>omega
         case rel=>exact⟨i+1,true,_,by omega,by omega,rfl,by go_num,by omega,hbl,JB,JG⟩
        |false=>
         go_wp2_with fail;refine(hdc.out).mono ?_;rintro e w6 ⟨rfl,hb⟩;replace hbl:=Lh (bld_below hbl.out hb);replace JB:=Lh (JB.out.trans (hb.mono JB.out.size));have hws:=Lh (ws_k w.heap.size w.heap.size acc ⟨#[63]⟩ (by show acc.length+1<_;omega) w6 hbl.out JB.out.size);have hg3:=Lh (qiR JG.out qsJ);clear hdc hb hbl JG;go_wp2_with fail;refine(hws.out).mono ?_;rintro e w7 ⟨rfl,hbl,hb,_⟩;replace hbl:=Lh hbl;replace JB:=Lh (JB.out.trans hb);clear hws hb;go_wp2_with fail;go_roundg (gk - 1)
         case measure=>omega
         case rel=>exact⟨i+1,true,_,by omega,by omega,rfl,by go_num,by simp;omega,hbl,JB,hg3⟩
       ·have hne:s2.data.toList.drop i≠[]:=by
         intro h;have:=congrArg List.length h;rw[List.length_drop] at this;simp at this;omega
        have hgt:=qfa _ hne (by rw[Lib.decodeL_drop,hd.out];exact fun h=>hK h.2);rw[Lib.decodeL_drop,hd.out] at hgt;have t6:((K:Int)==1)=false:=by simp;omega
        have hxd:(s2.extract i (i+K)).data.toList=(s2.data.toList.drop i).take K:=by rw[qcU,Nat.add_sub_cancel_left]
        have hg3:=Lh (qiR JG.out (show gq _ from⟨hgt,fun c hc=>h2n.out c (List.mem_of_mem_drop (List.mem_of_mem_take hc))⟩));obtain⟨u,hu⟩: ∃u,Hid (s2.extract i (i+K)=u):=⟨_,Lh rfl⟩;rw[←hxd,hu.out] at hg3;have huz:u.size=K:=by rw[←hu.out,ByteArray.size_extract];omega
        have hu':s2.extract i (i+K)=u:=hu.out;have u1:decide ((i:Int)≤(i:Int)+(K:Int))=true:=dT (by omega);have u2:decide (i≤i+K)=true:=dT (by omega);have u3:decide (i+K≤s2.size)=true:=dT (by omega);have u4:decide ((i:Int)+(K:Int)≤(s2.size:Int))=true:=dT (by omega);have u5:((i:Int)+(K:Int)).toNat=i+K:=by omega
        clear hd hc hgt hne hxd;go_wp2_with fail;refine(hdc.out).mono ?_;rintro e w6 ⟨rfl,hb⟩;replace hbl:=Lh (bld_below hbl.out hb);replace JB:=Lh (JB.out.trans (hb.mono JB.out.size));have hws:=Lh (ws_k w.heap.size w.heap.size acc u (by omega) w6 hbl.out JB.out.size);clear hdc hb hbl JG;go_wp2_with fail;refine(hws.out).mono ?_;rintro e w7 ⟨rfl,hbl,hb,_⟩;replace hbl:=Lh hbl;replace JB:=Lh (JB.out.trans hb);clear hws hb hu';go_wp2_with fail;go_roundg (gk - 1)
        case measure=>omega
        case rel=>exact⟨i+K,false,_,by omega,by omega,rfl,by go_num,by rw[List.length_append,show u.data.toList.length=u.size by simp,huz];omega,hbl,JB,hg3⟩
     ·obtain rfl:i=s2.size:=by omega
      have t3:decide (s2.size<s2.size)=false:=dF (by omega);have hst:=Lh (str_k w.heap.size w.heap.size acc ⟨acc.toArray⟩ rfl wr hbl.out JB.out.size);clear hbl;go_wp2_with fail;refine(hst.out).mono ?_;rintro e w7 ⟨rfl,_,hb,_⟩;replace JB:=Lh (JB.out.trans hb);go_wp2_with fail;go_ret;exact⟨⟨_,rfl,JG.out,by rw[qdE];omega⟩,JB.out⟩
   ·have hg2:=qnM s h92.out (qi6 s pos hlt R K hd.out hv I.out.2.2.2.1);have I2:=Lh (I.out.next hg2)
    by_cases hR:R=65533
    ·subst hR;have hK:K≠1:=fun e=>hv ⟨rfl,e⟩
     have hdc:=Lh (qiY s pos hlt _ K hd.out (wr.iterAt (w.heap.size+1) s (pos+K)) (hT.out _ I2.out.2.2.1));have t1:((K:Int)==1)=false:=by simp;omega
     have t2:decide (pos≤s.size)=true:=dT (by omega);clear hit hg2 hd I;go_wp2_with fail;refine hdc.out.mono ?_;rintro e w2 ⟨rfl,hb⟩;replace I2:=Lh (I2.out.on hb);clear hdc hb;go_wp2_with fail;go_roundg (gk - 1)
     case measure=>omega
     case rel=>exact⟨pos+K,by omega,by omega,rfl,I2⟩
    ·have t1:((R:Int) !=65533)=true:=by simp;omega
     clear hit hg2 hd I;go_wp2_with fail;go_roundg (gk - 1)
     case measure=>omega
     case rel=>exact⟨pos+K,by omega,by omega,rfl,I2⟩
  ·obtain rfl:pos=s.size:=by omega
   have hnx: ∀ty,(Instr.next (.pointer (some ⟨w.heap.size+1,0,none⟩)) true ty).run Tryz.prog wr=_:=fun ty=>Lib.run_next_end_at wr (w.heap.size+1) s s.size ty hit hlt
   have hfr:=I.out.1;have hc1:wr.cell? ⟨w.heap.size,1,none⟩=some (.slice none 0 0):=by rw[Lib.cell_of_heap hfr];rfl
   have hcp:=Lh (qhf w.heap.size none 0 0 wr hc1);have hgood:=I.out.2.2.2;rw[List.take_of_length_le (by rw[hz.out];exact Nat.le_refl _)] at hgood;have hgd:=Lh hgood;have hB:=Lh I.out.2.2.1;clear hit hfr hc1 hgood I;go_wp2_with fail;refine hcp.out.mono ?_;rintro e w2 ⟨rfl,rfl⟩;go_wp2_with fail;go_ret;exact⟨⟨s,rfl,hgd.out,by omega⟩,hB.out⟩
end Go.Proofs.YtdeimnnpcfncpaaGreatDoor.L
end
