/- Parts of the proof: A3 A4 A5 A6 A7 A8 A9 A10 A11. -/
import Derived.Laws.RangeString
import Derived.Laws.RangeAny
import Derived.Lib.RuneCountTail
import Derived.Laws.Runes
import Derived.Lib.SlTrimSet
import Derived.Test.YtdeimnnpcfncpaaGreatDoorCY24
set_option linter.unusedVariables false
set_option linter.unusedSimpArgs false
set_option maxRecDepth 100000
set_option maxHeartbeats 64000000
namespace Go.Proofs.YtdeimnnpcfncpaaGreatDoor.X
open Go Go.RowKit
def sBl:ByteArray:=⟨#[32,9]⟩
theorem qnA (r:Nat) (W:World):(convert 21 9 (.int .i32 (r:Int))).run Tryz.prog W= .ok (.string (Utf8.encode (r:Int))) W:=by
 go_simp
theorem qpL (r:Nat) (h:128≤r) (hv:Utf8.valid (r:Int)=true): ∃n:Nat,(Utf8.encode (r:Int)).size=n∧2≤n∧n≤4∧128≤(bt (Utf8.encode (r:Int)) (n - 1)).toNat:=by
 have lo: ∀k,k<64→128≤(UInt8.ofNat (128+k)).toNat:=fun k hk=>by
  rw[UInt8.toNat_ofNat'];omega
 unfold Utf8.encode;simp only[hv,if_true,Int.toNat_natCast];rw[if_neg (by omega)]
 split
 ·exact⟨2,rfl,by decide,by decide,lo (r%64) (by omega)⟩
 ·split
  ·exact⟨3,rfl,by decide,by decide,lo (r%64) (by omega)⟩
  ·exact⟨4,rfl,by decide,by decide,lo (r%64) (by omega)⟩
theorem qmI (R:Nat) (h:128≤R) (cV: ∀W:World,Calls Tryz.prog 243 #[.int .i32 (R:Int)] W fun e w'=>e= .returned (.bool (Utf8.valid (R:Int)))∧w'=W) (w:World):Calls Tryz.prog 187 #[.string sBl,.int .i32 (R:Int)] w fun e w'=>e= .returned (.int .i64 (-1))∧Below w.heap.size w w':=by
 have u1:decide ((0:Int)≤(R:Int))=true:=dT (by omega);have u2:decide ((R:Int)<128)=false:=dF (by omega);have u2':decide (R<128)=false:=dF (by omega);unfold sBl
 by_cases hE:R=65533
 ·have u3:((R:Int)==65533)=true:=by rw[hE];rfl
  clear cV;go_enter Tryz.func187,Tryz.ntmps187;go_wp2_with fail;go_loopg [5,6] 3 (fun g s5 s6 wx=> ∃i:Nat,i≤2∧2 - i<g∧wx=w.iter sBl i)
  case atStart=>exact⟨0,by omega,by omega,rfl⟩
  case round=>
   obtain⟨i,hi,hgk,rfl⟩:=hrel;have hB:Hid (Below w.heap.size w (w.iter sBl i)):=Lh (by rw[World.iter];exact(Below.refl _ _).alloc (Nat.le_refl _) _);have hi3:i=0∨i=1∨i=2:=by omega
   rcases hi3 with rfl|rfl|rfl
   ·have hnx:=fun ty=>run_next_ascii (P:=Tryz.prog) w sBl 0 ty (by decide) (by decide)
    go_wp2_with fail;go_roundg (gk - 1)
    case measure=>omega
    case rel=>exact⟨1,by omega,by omega,rfl⟩
   ·have hnx:=fun ty=>run_next_ascii (P:=Tryz.prog) w sBl 1 ty (by decide) (by decide)
    go_wp2_with fail;go_roundg (gk - 1)
    case measure=>omega
    case rel=>exact⟨2,by omega,by omega,rfl⟩
   ·have hnx:=fun ty=>run_next_end (P:=Tryz.prog) w sBl 2 ty (by decide)
    go_wp2_with fail;go_ret;exact⟨rfl,hB.out⟩
 ·have u3:((R:Int)==65533)=false:=beq_eq_false_iff_ne.2 (by omega)
  cases hv:Utf8.valid (R:Int)with
  |false=>
   rw[hv] at cV;have cVh:=Lh cV;clear cV hv;go_enter Tryz.func187,Tryz.ntmps187;go_wp2_with fail;refine(cVh.out _).mono ?_;rintro e w1 ⟨rfl,rfl⟩;go_wp2_with fail;go_ret;exact⟨rfl,Below.refl _ _⟩
  |true=>
   rw[hv] at cV;have cVh:=Lh cV;obtain⟨n,hn,hn2,hn4,hx⟩:=qpL R h hv;have hcv:=qnA R;obtain⟨rs,hrs⟩: ∃rs,Hid (rs=Utf8.encode (R:Int)):=⟨_,Lh rfl⟩;rw[←hrs.out] at hn hx hcv;obtain⟨c,hc,hB⟩:=qdd rs (n - 1) (by omega);rw[hc.out] at hx;clear cV hv hc hrs;go_enter Tryz.func187,Tryz.ntmps187;go_wp2_with fail;refine(cVh.out _).mono ?_;rintro e w1 ⟨rfl,rfl⟩;go_wp2_with fail;go_step3;go_wp2_with fail;have cI:=Lh (fun W=>Tryz.strings_IndexByte ByteArray.empty (c.toNat:Int) W);go_loopg [9] 2 (fun gk s9 wx=>0<gk∧s9= .int .i64 ((n:Int) - 1)∧w1=wx)
   case atStart=>exact⟨by omega,rfl,rfl⟩
   case round=>
    obtain⟨hgk,rfl,rfl⟩:=hrel
    by_cases hn3:n=2
    ·subst hn3;go_wp2_with fail;go_step3;have e1:((2:Nat):Int) - 1=((1:Nat):Int):=by decide
     simp only[e1]
     have q1:((((({data:=#[32,9]}:ByteArray)[1]'(by decide)).toNat:Int)) !=(c.toNat:Int))=true:=by
      rw[bne_iff_ne];show(9:Int)≠_;omega
     go_upto_region 7 with (fail)
     go_quiet (fail);go_wp2_with fail;go_upto_region 9 with (fail)
     have w2:IntKind.i64.wrap 2=((2:Nat):Int):=by decide
     go_quiet (exact(Tryz.strings_IndexByte _ _ _).mono (fun e w' ⟨h1,h2⟩=>⟨h1,_,h2⟩));go_wp2_with fail;simp only[Exit.inBlock,Exit.then,Exit.noGoto];go_ret;exact⟨rfl,by first|exact bq (Below.refl _ _) _|exact bq (bq (Below.refl _ _) _) _|exact Below.drew (Below.refl _ _)⟩
    ·have v1:decide ((n:Int) - 1<2)=false:=dF (by omega);go_wp2_with fail;rw[Exit.noGoto_ret];go_ret;exact⟨rfl,Below.refl _ _⟩
theorem qq8 (s:ByteArray) (pos:Nat) (h:pos<s.size) (ha:128≤(s.get! (pos+0)).toNat): ∀k,k<(Utf8.decode s pos).2→128≤(s.get! (pos+k)).toNat:=by
 intro k hk;have hn: ¬(s.get! (pos+0)).toNat<128:=by omega
 simp only[Utf8.decode,hn,if_false] at hk
 have c4:k=0∨k=1∨k=2∨k=3:=by
  repeat' split at hk
  all_goals simp at hk
  all_goals omega
 rcases c4 with rfl|rfl|rfl|rfl
 ·exact ha
 all_goals
  repeat' split at hk
  all_goals simp_all
  all_goals omega
theorem qm1 (s:ByteArray) (j:Nat) (b:UInt8) (h:s.data.toList[j]?=some b):s.get! j=b:=by
 have hj:j<s.size:=by
  rcases Nat.lt_or_ge j s.size with h'|h'
  ·exact h'
  ·rw[List.getElem?_eq_none (by simpa using h')] at h;cases h
 have:=Lib.data_getElem? s j hj;rw[h] at this;have:=Option.some.inj this;rw[this];have h2:=get_at s j hj;rw[Nat.add_zero] at h2;exact h2
theorem qsh (s:ByteArray) (pos:Nat) (h:pos<s.size):pos+(Utf8.decode s pos).2≤s.size:=by
 simp only[Utf8.decode]
 repeat' split
 all_goals simp_all
 all_goals omega
theorem qkf (s:ByteArray) (pos:Nat) (h:pos<s.size) (ha:128≤(s[pos]'h).toNat) (h0:Lib.NoAny s.data.toList [32,9] pos):Lib.NoAny s.data.toList [32,9] (pos+(Utf8.decode s pos).2):=by
 intro j b hj hb
 by_cases hp:j<pos
 ·exact h0 j b hp hb
 ·have h1:=qq8 s pos h (by rw[get_at s pos h];exact ha) (j - pos) (by omega);rw[show pos+(j - pos)=j by omega,qm1 s j b hb] at h1;rw[←Bool.not_eq_true,List.contains_iff_mem];intro hm;simp only[List.mem_cons,List.not_mem_nil,or_false] at hm;rcases hm with rfl|rfl<;>exact absurd h1 (by decide)
theorem qs9 (R:Nat) (w:World):Calls Tryz.prog 243 #[.int .i32 (R:Int)] w fun e w'=>e= .returned (.bool (Utf8.valid (R:Int)))∧w'=w:=by
 rw[Go.validRune_eq];exact Tryz.utf8_ValidRune _ w
theorem qoy (n:Int) (w:World):Calls Tryz.prog 188 #[.int .i64 n] w fun e w'=>e= .returned (.bool (decide (8<n)))∧w'=w:=Any.strings_shouldUseASCIISet (ρ:=Tryz.lays153_ren) {Tryz.lays153 with} n w
theorem qlO (c:UInt8) (hc:c.toNat<128) (w:World):Calls Tryz.prog 187 #[.string sBl,.int .i32 (c.toNat:Int)] w fun e w'=>e= .returned (.int .i64 (Lib.indexByte [32,9] c))∧w'=w:=by
 have h:=Any.strings_IndexRune_ascii (ρ:=Tryz.lays153_ren) {Tryz.lays153 with} sBl (c.toNat:Int) w (by omega) (by omega);have e:((c.toNat:Int)).toNat.toUInt8=c:=by simp
 rw[e] at h;exact h
theorem qsB (c:UInt8) (h:[32,9].contains c=false):Lib.indexByte [32,9] c= -1:=by
 have:=Lib.contains_iff_indexByte [32,9] c;rw[h] at this;have h1:=of_decide_eq_false this.symm;have h2:=Lib.indexByte_ge [32,9] c;omega
def IxI (w:World) (s:ByteArray) (pos:Nat) (W:World):Prop:=W.heap[w.heap.size]?=some (.stringIter s pos)∧Below w.heap.size w W
theorem IxI.next {w:World} {s:ByteArray} {pos p2:Nat} {W:World} (h:IxI w s pos W):IxI w s p2 (W.iterAt w.heap.size s p2):=
 ⟨Lib.iterAt_heap W _ s pos p2 h.1,Lib.below_iterAt h.2 (Nat.le_refl _) s p2⟩
theorem IxI.on {w:World} {s:ByteArray} {pos:Nat} {W W':World} (h:IxI w s pos W) (hb:Below W.heap.size W W'):IxI w s pos W':=
 ⟨(hb.block _ (Array.getElem?_eq_some_iff.1 h.1).1).trans h.1,h.2.trans (hb.mono h.2.size)⟩
theorem qmk (s:ByteArray) (hs:s.size≤8) (w:World):Calls Tryz.prog 132 #[.string s,.string sBl] w fun e w'=>e= .returned (.int .i64 (Lib.indexAny s.data.toList [32,9]))∧Below w.heap.size w w':=by
 have I0:Hid (IxI w s 0 (w.iter s 0)):=Lh ⟨World.iter_heap w s 0,by rw[World.iter];exact(Below.refl _ _).alloc (Nat.le_refl _) _⟩;have h8z:decide ((8:Int)<(s.size:Int))=false:=dF (by omega);have q0:Hid (Lib.indexAny s.data.toList [32,9]=Lib.indexAny s.data.toList [32,9]):=Lh rfl;obtain⟨R0,hR0⟩: ∃R0:Int,Hid (R0=Lib.indexAny s.data.toList [32,9]):=⟨_,Lh rfl⟩;rw[←hR0.out];clear q0;unfold sBl;go_enter Tryz.func132,Tryz.ntmps132;go_wp2_with fail;refine(qoy _ _).mono ?_;rintro e w1 ⟨rfl,rfl⟩;go_wp2_with fail;generalize hW0:w1.iter s 0=W0 at I0⊢;clear hW0;go_loopg [9,10] (s.size+1) (fun g _ _ wx=> ∃i:Nat,i≤s.size∧s.size - i<g∧Hid (IxI w1 s i wx)∧Hid (Lib.NoAny s.data.toList [32,9] i))
 case atStart=>exact⟨0,by omega,by omega,I0,Lh (Lib.NoAny.zero _ _)⟩
 case round=>
  clear I0;obtain⟨i,hi,hgk,I,HN⟩:=hrel
  by_cases hlt:i<s.size
  ·have hnx: ∀ty,(Instr.next (.pointer (some ⟨w1.heap.size,0,none⟩)) true ty).run Tryz.prog wr=_:=fun ty=>Lib.run_next_any_at wr w1.heap.size s i ty I.out.1 hlt
   obtain⟨x,hx⟩: ∃x:UInt8,s[i]'hlt=x:=⟨_,rfl⟩;have hxl:s.data.toList[i]?=some x:=by rw[←hx];exact Lib.data_getElem? s i hlt
   have hw:=Lib.decode_width_pos s i hlt
   by_cases ha:x.toNat<128
   ·have hd:=decode_ascii s i hlt (by rw[hx];exact ha);rw[hd,hx] at hnx;simp only at hnx;have Hx:=Lh hxl;have J:=Lh (I.out.next (p2:=i+1));have cI:=Lh (qlO x ha);unfold sBl at cI;clear hxl hx hd hw
    cases hin:[32,9].contains x with
    |false=>
     have hib:=qsB x hin;rw[hib] at cI;have Hin:=Lh hin;clear hib hin;go_wp2_with fail;refine(cI.out _).mono ?_;rintro e w2 ⟨rfl,rfl⟩;go_wp2_with fail;go_roundg (gk - 1)
     case measure=>omega
     case rel=>exact⟨i+1,by omega,by omega,J,Lh (HN.out.succ Hx.out Hin.out)⟩
    |true=>
     have hcon:=Lib.contains_iff_indexByte [32,9] x;rw[hin] at hcon;have hge:(0:Int)≤Lib.indexByte [32,9] x:=of_decide_eq_true hcon.symm;have Hin:=Lh hin;clear hin hcon;obtain⟨r,hr⟩: ∃r:Int,Lib.indexByte [32,9] x=r:=⟨_,rfl⟩;rw[hr] at cI hge;have hg:=dT (p:=r≥0) hge;clear hr;go_wp2_with fail;refine(cI.out _).mono ?_;rintro e w2 ⟨rfl,rfl⟩;go_wp2_with fail;go_ret;exact⟨by rw[hR0.out,Lib.indexAny_hit HN.out Hx.out Hin.out];rfl,J.out.2⟩
   ·obtain⟨hR,_⟩:=decode_high s i hlt (by rw[hx];omega);have HN2:=Lh (qkf s i hlt (by rw[hx];omega) HN.out);have hK:=qsh s i hlt;obtain⟨R,K,hd⟩: ∃R K,Utf8.decode s i=(R,K):=⟨_,_,rfl⟩;rw[hd] at hnx hR HN2 hK hw;simp only at hnx hR HN2 hK hw;have J:=Lh (I.out.next (p2:=i+K));have cI:=Lh (fun W=>qmI R hR (qs9 R) W);unfold sBl at cI;clear hx hxl hd hR ha;go_wp2_with fail;refine(cI.out _).mono ?_;rintro e w2 ⟨rfl,B⟩;replace J:=Lh (J.out.on B);clear B;go_wp2_with fail;go_roundg (gk - 1)
    case measure=>omega
    case rel=>exact⟨i+K,by omega,by omega,J,HN2⟩
  ·have hnx: ∀ty,(Instr.next (.pointer (some ⟨w1.heap.size,0,none⟩)) true ty).run Tryz.prog wr=_:=fun ty=>Lib.run_next_end_at wr w1.heap.size s i ty I.out.1 hlt
   go_wp2_with fail;go_ret;exact⟨by rw[hR0.out,Lib.indexAny_none (by rw[←Lib.size_eq];have:=HN.out;rw[show i=s.size by omega] at this;exact this)];rfl,I.out.2⟩
theorem qtB:(Tryz.prog.info? 152).map (fun i=>(i.zero,i.size))=some (some (.agg (Array.replicate 256 (.bool false))),256):=by kernel_rfl
theorem qrM (s:ByteArray) (hs:s.size<4294967281) (w:World):Calls Tryz.prog 132 #[.string s,.string sBl] w fun e w'=>e= .returned (.int .i64 (Lib.indexAny s.data.toList [32,9]))∧Below w.heap.size w w':=by
 by_cases h8:s.size≤8
 ·exact qmk s h8 w
 ·refine(Tryz.strings_IndexAny_long (zero_of_info qtB).1 s sBl w (by decide) (by omega) hs (by decide) ?_).mono ?_
  ·intro j b hb
   match j,hb with
   |0,hb=>cases hb;decide
   |1,hb=>cases hb;decide
   |j+2,hb=>simp[sBl] at hb
  ·rintro e w' ⟨rfl,rfl⟩;exact⟨rfl,((Below.refl _ _).alloc (Nat.le_refl _) _).alloc (by simp) _⟩
structure Only (D:Nat) (w w':World):Prop where
 os:w'.os=w.os
 tape:w'.tape=w.tape
 output:w'.output=w.output
 size:w.heap.size≤w'.heap.size
 block: ∀k,k<w.heap.size→k≠D→w'.heap[k]?=w.heap[k]?
theorem Only.refl (D:Nat) (w:World):Only D w w:=⟨rfl,rfl,rfl,Nat.le_refl _,fun _ _ _=>rfl⟩
theorem Only.trans {D:Nat} {a b c:World} (h:Only D a b) (k:Only D b c):Only D a c:=
 ⟨k.os.trans h.os,k.tape.trans h.tape,k.output.trans h.output,Nat.le_trans h.size k.size,fun i hi hn=>(k.block i (Nat.lt_of_lt_of_le hi h.size) hn).trans (h.block i hi hn)⟩
theorem Only.of {D:Nat} {a b:World} (h:Below a.heap.size a b):Only D a b:=⟨h.os,h.tape,h.output,h.size,fun k hk _=>h.block k hk⟩
theorem Only.below {D B:Nat} {a b:World} (h:Only D a b) (hD:B≤D) (hB:B≤a.heap.size):Below B a b:=⟨h.os,h.tape,h.output,h.size,fun k hk=>h.block k (by omega) (by omega)⟩
def Lft (D:Nat) (l:List UInt8) (w:World):Prop:=w.heap[D]?=some (.cells #[.string (BS l)] 119 (0,0))
theorem Lft.lt {D:Nat} {l:List UInt8} {w:World} (h:Lft D l w):D<w.heap.size:=(Array.getElem?_eq_some_iff.1 h).1
theorem Lft.on {D:Nat} {l:List UInt8} {w w':World} (h:Lft D l w) (hb:Below w.heap.size w w'):Lft D l w':=(hb.block D h.lt).trans h
theorem Lft.cell {D:Nat} {l:List UInt8} {w:World} (h:Lft D l w):w.cell? ⟨D,0,none⟩=some (.string (BS l)):=by rw[Lib.cell_of_heap h];rfl
theorem Lft.fro {D:Nat} {l:List UInt8} {w:World} (h:Lft D l w):w.frozen? ⟨D,0,none⟩=false:=Lib.frozen_of_heap h 0
theorem Lft.set {D:Nat} {l:List UInt8} {w:World} (h:Lft D l w) (r:List UInt8):Lft D r (w.setCell ⟨D,0,none⟩ (.string (BS r)))∧Only D w (w.setCell ⟨D,0,none⟩ (.string (BS r))):=by
 constructor
 ·unfold Lft World.setCell;have h':=h;unfold Lft at h';simp[Array.getElem?_modify,h']
 ·refine⟨rfl,rfl,rfl,by simp[World.setCell],fun k hk hn=>?_⟩;unfold World.setCell;simp[Array.getElem?_modify,Ne.symm hn]
def tb (l:List UInt8):List UInt8:=Lib.trimLeftS l [32,9]
theorem qp1 (l:List UInt8) (w:World):Calls Tryz.prog 40 #[.string (BS l),.string ⟨#[32,9]⟩] w fun e w'=>e= .returned (.string (BS (tb l)))∧Below w.heap.size w w':=
 Any.strings_TrimLeft_laid Tryz.lays161 (by kernel_rfl) (BS l) ⟨#[32,9]⟩ w (by decide) (ascii_of_all (by decide))
theorem qao (D:Nat) (l:List UInt8) (w:World) (h:Lft D l w):Calls Tryz.prog 69 #[.pointer (some ⟨D,0,none⟩)] w fun e w'=>e= .returned (.tuple #[])∧Lft D (tb l) w'∧Only D w w':=by
 have c0:=h.cell;have H:=Lh h;clear h;go_enter Tryz.func69,Tryz.ntmps69;go_wp2_with fail;refine(qp1 l _).mono ?_;rintro e w1 ⟨rfl,B⟩;have H1:=H.out.on B;have f1:=H1.fro;have d1:=H1.cell;have S:=Lh (H1.set (tb l));have B1:=Lh (Only.of (D:=D) B);clear B H1 H;go_wp2_with fail;go_end0;exact⟨rfl,S.out.1,B1.out.trans S.out.2⟩
theorem qcQ (D:Nat) (c:UInt8) (l:List UInt8) (w:World) (h:Lft D l w):Calls Tryz.prog 71 #[.pointer (some ⟨D,0,none⟩),.int .u8 (c.toNat:Int)] w fun e w'=>e= .returned (.bool (l.head?==some c))∧Lft D (if l.head?==some c then l.tail else l) w'∧Only D w w':=by
 have c0:=h.cell;have f0:=h.fro;have H:=Lh h;clear h
 cases l with
 |nil=>
  have hem:(BS ([]:List UInt8)).toList.isEmpty=true:=by rw[qad];rfl
  go_enter Tryz.func71,Tryz.ntmps71;go_wp2_with fail;go_ret;exact⟨rfl,H.out,Only.refl _ _⟩
 |cons x r=>
  have hem:(BS (x::r)).toList.isEmpty=false:=by rw[qad];rfl
  have S:=Lh (H.out.set r)
  obtain⟨s,hs,hx0,hlen,hsl⟩: ∃s:ByteArray,s=BS (x::r)∧(∃h:0<s.size,s[0]'h=x)∧s.size=r.length+1∧s.extract 1 (r.length+1)=BS r:=
   ⟨_,rfl,⟨by rw[qac];simp,rfl⟩,by rw[qac];simp,by apply qbn;simp[BS,List.take_of_length_le]⟩
  rw[←hs] at hem c0;obtain⟨h0,hx0⟩:=hx0
  cases hc:(x==c)with
  |true=>
   obtain rfl:x=c:=by simpa using hc
   have e1:((x::r).head?==some x)=true:=by simp
   rw[e1];clear hs hc;go_enter Tryz.func71,Tryz.ntmps71;go_wp2_with fail;go_ret;exact⟨rfl,S.out.1,S.out.2⟩
  |false=>
   have hn:(x.toNat !=c.toNat)=true:=by
    rw[bne_iff_ne];intro h;rw[UInt8.toNat_inj] at h;rw[h] at hc;simp at hc
   have hn2:((x.toNat:Int) !=(c.toNat:Int))=true:=by
    rw[bne_iff_ne] at hn⊢;omega
   have e1:((x::r).head?==some c)=false:=by simpa using hc
   rw[e1];clear hs hc;go_enter Tryz.func71,Tryz.ntmps71;go_wp2_with fail;go_ret;exact⟨rfl,H.out,Only.refl _ _⟩
theorem qju (l:List UInt8) (n:Nat) (h:n≤l.length):(BS l).extract 0 n=BS (l.take n):=by
 apply qbn;simp[BS]
theorem qeS (l:List UInt8) (n m:Nat) (h:m=l.length):(BS l).extract n m=BS (l.drop n):=by
 subst h;apply qbn;simp[BS,List.take_of_length_le]
theorem qbc (p:UInt8→Bool) (l:List UInt8):l.take (l.takeWhile p).length=l.takeWhile p∧l.drop (l.takeWhile p).length=l.dropWhile p∧(l.takeWhile p).length≤l.length:=by
 induction l with
 |nil=>exact⟨rfl,rfl,Nat.le_refl _⟩
 |cons a t ih=>
  by_cases h:p a
  ·simp only[List.takeWhile_cons_of_pos h,List.dropWhile_cons_of_pos h,List.length_cons,List.take_succ_cons,List.drop_succ_cons];exact⟨by rw[ih.1],ih.2.1,by omega⟩
  ·simp[List.takeWhile_cons_of_neg h,List.dropWhile_cons_of_neg h]
def nb (b:UInt8):Bool:=!([32,9].contains b)
def wd (l:List UInt8):List UInt8:=l.takeWhile nb
def wr (l:List UInt8):List UInt8:=l.dropWhile nb
theorem qrg (l:List UInt8):Lib.indexAny l [32,9]=if (wd l).length=l.length then -1 else ((wd l).length:Int):=by
 induction l with
 |nil=>rfl
 |cons b t ih=>
  unfold Lib.indexAny
  cases h:([32,9]:List UInt8).contains b with
  |true=>
   have e:wd (b::t)=[]:=by unfold wd nb;rw[List.takeWhile_cons_of_neg (by rw[h];decide)]
   rw[e];simp
  |false=>
   have e:wd (b::t)=b::wd t:=by unfold wd nb;rw[List.takeWhile_cons_of_pos (by rw[h];rfl)]
   rw[e,ih];simp only[List.length_cons,Bool.false_eq_true,if_false]
   by_cases hh:(wd t).length=t.length
   ·rw[if_pos hh,if_pos (show(wd t).length+1=t.length+1 by omega)];rfl
   ·have h1:(((wd t).length:Int)== -1)=false:=by rw[beq_eq_false_iff_ne];omega
    rw[if_neg hh,if_neg (show¬(wd t).length+1=t.length+1 by omega),h1];simp
theorem qsD (l:List UInt8) (hl:l.length≤65536) (w:World):Calls Tryz.prog 132 #[.string (BS l),.string ⟨#[32,9]⟩] w fun e w'=>e= .returned (.int .i64 (if (wd l).length=l.length then -1 else ((wd l).length:Int)))∧Below w.heap.size w w':=by
 rw[←qrg];exact qrM (BS l) (by rw[qac];omega) w
theorem qbO (D:Nat) (l:List UInt8) (hl:l.length≤65536) (w:World) (h:Lft D l w):Calls Tryz.prog 74 #[.pointer (some ⟨D,0,none⟩)] w fun e w'=>e= .returned (.string (BS (wd l)))∧Lft D (wr l) w'∧Only D w w':=by
 have c0:=h.cell;have H:=Lh h;have ci:=Lh (fun W=>qsD l hl W);obtain⟨k1,k2,k3⟩:=qbc nb l;have x1:=qju l (wd l).length k3;have x2:=qeS l (wd l).length l.length rfl;rw[show l.take (wd l).length=wd l from k1] at x1;rw[show l.drop (wd l).length=wr l from k2] at x2;replace k3:(wd l).length≤l.length:=k3;have hz:=qac l;clear h k1 k2;obtain⟨n,hn⟩: ∃n,(wd l).length=n:=⟨_,rfl⟩;rw[hn] at x1 x2 ci k3;obtain⟨s,hs⟩: ∃s,BS l=s:=⟨_,rfl⟩;rw[hs] at x1 x2 ci hz c0;obtain⟨m,hm⟩: ∃m,l.length=m:=⟨_,rfl⟩;rw[hm] at x2 ci k3 hz hl;have H':=H;have x2':=x2
 by_cases he:n=m
 ·subst he;rw[if_pos rfl] at ci
  have hE:BS (wr l)=ByteArray.empty:=by
   rw[←x2];apply qbn;simp
  go_enter Tryz.func74,Tryz.ntmps74;go_wp2_with fail;refine(ci.out _).mono ?_;rintro e w1 ⟨rfl,B⟩;have H1:=H.out.on B;have f1:=H1.fro;have d1:=H1.cell;rw[hs] at d1;have S:=Lh (H1.set (wr l));have B1:=Lh (Only.of (D:=D) B);rw[hE] at S;clear B H1 H hs ci hE;go_wp2_with fail;go_ret;exact⟨rfl,S.out.1,B1.out.trans S.out.2⟩
 ·rw[if_neg he] at ci;go_enter Tryz.func74,Tryz.ntmps74;go_wp2_with fail;refine(ci.out _).mono ?_;rintro e w1 ⟨rfl,B⟩;have H1:=H.out.on B;have f1:=H1.fro;have d1:=H1.cell;rw[hs] at d1;have S:=Lh (H1.set (wr l));have B1:=Lh (Only.of (D:=D) B);clear B H1 H hs ci;go_wp2_with fail;go_ret;exact⟨rfl,S.out.1,B1.out.trans S.out.2⟩
def nch (o c:UInt8):Bool:=ltr o c||isD c
def nm (o:UInt8) (l:List UInt8):List UInt8:=l.takeWhile (nch o)
def nr (o:UInt8) (l:List UInt8):List UInt8:=l.dropWhile (nch o)
theorem qsq (o:UInt8) (l:List UInt8): ∀i,i≤(l.takeWhile (nch o)).length→i<l.length→nch o (l.getD i 0)=true→i<(l.takeWhile (nch o)).length:=by
 induction l with
 |nil=>intro i h h2;simp at h2
 |cons a t ih=>
  intro i h h2 h3
  by_cases ha:nch o a=true
  ·rw[List.takeWhile_cons_of_pos ha] at h⊢
   cases i with
   |zero=>simp
   |succ j=>
    simp only[List.length_cons] at h h2⊢;have:=ih j (by omega) (by omega) (by simpa using h3);omega
  ·rw[List.takeWhile_cons_of_neg ha] at h;simp at h;subst h;simp at h3;exact absurd h3 ha
theorem qpD (o:UInt8) (l:List UInt8): ∀i,i≤(l.takeWhile (nch o)).length→(i<l.length→nch o (l.getD i 0)=false)→i=(l.takeWhile (nch o)).length:=by
 induction l with
 |nil=>intro i h _;simp at h;simpa using h
 |cons a t ih=>
  intro i h h3
  by_cases ha:nch o a=true
  ·rw[List.takeWhile_cons_of_pos ha] at h⊢
   cases i with
   |zero=>
    have:=h3 (by simp);simp at this;rw[ha] at this;cases this
   |succ j=>
    simp only[List.length_cons] at h h3⊢;have:=ih j (by omega) (fun hj=>by have:=h3 (by omega);simpa using this);omega
  ·rw[List.takeWhile_cons_of_neg ha] at h⊢;simp at h;simpa using h
theorem qjh (o c:UInt8):nch o c=((decide (97≤c.toNat)&&decide (c.toNat≤122))||(decide (65≤c.toNat)&&decide (c.toNat≤90))||(c.toNat==95)||(c.toNat==o.toNat)||(decide (48≤c.toNat)&&decide (c.toNat≤57))):=by
 unfold nch ltr
 have e1:(c==95)=(c.toNat==95):=by
  rw[Bool.eq_iff_iff,beq_iff_eq,beq_iff_eq];exact⟨fun h=>by rw[h];rfl,fun h=>UInt8.toNat_inj.1 (by show c.toNat=95;omega)⟩
 have e2:(c==o)=(c.toNat==o.toNat):=by
  rw[Bool.eq_iff_iff,beq_iff_eq,beq_iff_eq];exact⟨fun h=>by rw[h],fun h=>UInt8.toNat_inj.1 (by omega)⟩
 have e3:isD c=(decide (48≤c.toNat)&&decide (c.toNat≤57)):=by
  rw[Bool.eq_iff_iff,qaB];simp
 rw[e1,e2,e3]
theorem qkX (D:Nat) (o:UInt8) (l:List UInt8) (hl:l.length≤65536) (w:World) (h:Lft D l w):Calls Tryz.prog 70 #[.pointer (some ⟨D,0,none⟩),.int .u8 (o.toNat:Int)] w fun e w'=>e= .returned (.string (BS (nm o l)))∧Lft D (nr o l) w'∧Only D w w':=by
 have c0:=h.cell;have f0:=h.fro;have S:=Lh (h.set (nr o l));clear h;obtain⟨k1,k2,k3⟩:=qbc (nch o) l;have x1:=qju l (nm o l).length k3;have x2:=qeS l (nm o l).length l.length rfl;rw[show l.take (nm o l).length=nm o l from k1] at x1;rw[show l.drop (nm o l).length=nr o l from k2] at x2;replace k3:(nm o l).length≤l.length:=k3;have hz:=qac l;have hbt:Hid (∀i,bt (BS l) i=l.getD i 0):=Lh (fun i=>by unfold bt BS;simp);have L1:=Lh (qsq o l);have L2:=Lh (qpD o l);obtain⟨m,hm⟩: ∃m,Hid (m=(nm o l).length):=⟨_,Lh rfl⟩;have L3:Hid (m=(l.takeWhile (nch o)).length):=Lh hm.out;rw[←L3.out] at L1 L2;rw[←hm.out] at x1 x2 k3;clear k1 k2 hm L3;obtain⟨s,hs⟩: ∃s,BS l=s:=⟨_,rfl⟩;rw[hs] at x1 x2 hz c0 hbt;clear hs;obtain⟨n,hn⟩: ∃n,l.length=n:=⟨_,rfl⟩;rw[hn] at x2 k3 hz hl L1 L2;replace x1:=Lh x1;replace x2:=Lh x2;go_enter Tryz.func70,Tryz.ntmps70;go_wp2_with fail;go_loopg [5,6] (n+1) (fun gk s5 _ wx=> ∃i:Nat,i≤m∧n - i<gk∧s5= .int .i64 (i:Int)∧w=wx)
 case atStart=>exact⟨0,by omega,by omega,rfl,rfl⟩
 case round=>
  obtain⟨i,hi,hgk,rfl,rfl⟩:=hrel
  by_cases hlt:i<n
  ·have u5:decide ((i:Int)<(n:Int))=true:=dT (by omega);have u6:decide (i<n)=true:=dT hlt;obtain⟨c,hc,hB⟩:=qdd s i (by omega);have hc2:Hid (l.getD i 0=c):=Lh (by rw[←hbt.out];exact hc.out);have M1:Hid (nch o c=true→i<m):=Lh (fun h=>L1.out i hi hlt (by rw[hc2.out];exact h));have M2:Hid (nch o c=false→i=m):=Lh (fun h=>L2.out i hi (fun _=>by rw[hc2.out];exact h));clear hc hc2 hbt L1 L2;go_wp2_with fail
   all_goals first
    |(have hm:i=m:=M2.out (by clear M1 M2 x1 x2 S c0 f0 hB;rw[qjh];grind)
      subst hm;replace x1:=x1.out;replace x2:=x2.out;go_ret
      exact⟨by rw[←x1];rfl,by rw[x2];exact S.out.1,by rw[x2];exact S.out.2⟩)
    |(have hm:i<m:=M1.out (by clear M1 M2 x1 x2 S c0 f0 hB;rw[qjh];grind)
      go_roundg (gk - 1)
      case measure=>omega
      case rel=>exact⟨i+1,by omega,by omega,by go_num,rfl⟩)
  ·obtain rfl:i=n:=by omega
   have hm:i=m:=L2.out i hi (fun h=>absurd h hlt);subst hm;have u5:decide ((i:Int)<(i:Int))=false:=dF (by omega);have u6:decide (i<i)=false:=dF (by omega);replace x1:=x1.out;replace x2:=x2.out;have hE:BS (nr o l)=ByteArray.empty:=by rw[←x2];apply qbn;simp
   rw[hE] at S;go_wp2_with fail;go_ret;exact⟨rfl,S.out.1,S.out.2⟩
def quA (l:List UInt8):Int×List UInt8×Nat:=if l.head?==some 34 then L.quF l else (221,[],0)
theorem qpZ (s:ByteArray) (hs:s.size≤65536) (w:World):Calls Tryz.prog 181 #[.string s,.int .i64 0] w fun e w'=>e= .returned (.tuple #[.string ⟨(quA s.data.toList).2.1.toArray⟩,.int .i64 (quA s.data.toList).2.2,.int .i64 (quA s.data.toList).1])∧Below w.heap.size w w':=by
 by_cases h0:0<s.size
 ·have hh:s.data.toList.head?=some (s[0]'h0):=by
   have:=Lib.data_getElem? s 0 h0;rw[←List.head?_eq_getElem?] at this;exact this
  have hg:s.data.toList.getD 0 0=s[0]'h0:=by
   rw[List.getD_eq_getElem?_getD,←List.head?_eq_getElem?,hh];rfl
  by_cases hq:s[0]'h0=34
  ·have:quA s.data.toList=L.quF s.data.toList:=by unfold quA;rw[hh,hq];rfl
   rw[this];exact L.quote_any s hs h0 (by rw[hg,hq]) w
  ·have hF:quA s.data.toList=(221,[],0):=by unfold quA;rw[hh,if_neg (by simpa using hq)]
   rw[hF];obtain⟨c,hc⟩: ∃c,s[0]'h0=c:=⟨_,rfl⟩;rw[hc] at hq;have t1:decide (65536<(s.size:Int))=false:=dF (by omega);have t2:decide ((s.size:Int)<0)=false:=dF (by omega);have t3:((0:Int)==(s.size:Int))=false:=by simp;omega
   have n1:((c.toNat:Int) !=34)=true:=by
    rw[bne_iff_ne];intro h;apply hq;apply UInt8.toNat_inj.1;show c.toNat=34;omega
   have hB:(((s[0]'h0).toNat:Int)=(c.toNat:Int)):=by rw[hc]
   clear hF hg hh hc hq;go_enter Tryz.func181,Tryz.ntmps181;go_wp2_with fail;go_ret3;exact⟨rfl,Below.refl _ _⟩
 ·have hn:s.data.toList=[]:=by
   apply List.length_eq_zero_iff.1;rw[qau];omega
  rw[hn];have hz:s.size=0:=by omega
  have t3:((0:Int)==(s.size:Int))=true:=by rw[hz];rfl
  clear hn;go_enter Tryz.func181,Tryz.ntmps181;go_wp2_with fail;go_ret3;exact⟨rfl,Below.refl _ _⟩
theorem qsf (l:List UInt8) (h:(L.quF l).1=0) (h0:l≠[]):(L.quF l).2.2≤l.length∧(L.quF l).2.1.length≤l.length:=by
 unfold L.quF at h⊢;have h2:=L.rdq_le (l.drop 1)
 split at h
 ·rename_i g
  rw[if_pos g];unfold L.comb at g⊢;have hl:0<l.length:=List.length_pos_iff.2 h0
  by_cases g2:(L.rdq (l.drop 1)).1=0
  ·have:=h2 g2;simp only[g2,if_true] at g⊢;simp only[List.length_drop] at this;simp at this⊢;omega
  ·rw[if_neg g2] at g;exact absurd g g2
 ·rename_i g;exact absurd h g
def quo (l:List UInt8):Option (List UInt8×List UInt8):=if (quA l).1=0∧qbi (quA l).2.1=true then some ((quA l).2.1,l.drop (quA l).2.2) else none
theorem qk3 (D:Nat) (l:List UInt8) (hl:l.length≤65536) (w:World) (h:Lft D l w):Calls Tryz.prog 125 #[.pointer (some ⟨D,0,none⟩)] w fun e w'=>
 e= .returned (.tuple #[.string (BS ((quo l).getD ([],l)).1),.bool (quo l).isSome])∧Lft D ((quo l).getD ([],l)).2 w'∧Only D w w':=by
 have c0:=h.cell;have H:=Lh h;have hz:=qac l;have ci:=qpZ (BS l) (by omega);rw[show(BS l).data.toList=l by simp[BS]] at ci
 have hle:(quA l).1=0→(quA l).2.2≤l.length∧(quA l).2.1.length≤l.length:=fun h=>by
  unfold quA at h⊢
  split at h
  ·rename_i g
   rw[if_pos g];exact qsf l h (by intro h';rw[h'] at g;simp at g)
  ·simp at h
 obtain⟨Q,hQ⟩: ∃Q,Hid (Q=quo l):=⟨_,Lh rfl⟩;have hQ2:=hQ.out;rw[←hQ2];unfold quo at hQ2;obtain⟨e,v,n,hq⟩: ∃e v n,quA l=(e,v,n):=⟨_,_,_,rfl⟩;rw[hq] at ci hle hQ2;simp only at ci hle hQ2;clear hq hQ h;have cv:=qex (BS v);rw[show(BS v).data.toList=v by simp[BS],qac] at cv;replace ci:=Lh ci
 by_cases he:e=0
 ·obtain⟨hn,hvl⟩:=hle he;subst he;replace cv:=Lh (cv (by omega));have x2:=qeS l n l.length rfl
  cases hv:qbi v with
  |true=>
   rw[hv] at hQ2 cv;rw[if_pos ⟨rfl,rfl⟩] at hQ2;rw[hQ2];show Calls _ _ _ _ fun e w'=>e= .returned (.tuple #[.string (BS v),.bool true])∧Lft D (l.drop n) w'∧Only D w w'
   obtain⟨s,hs⟩: ∃s,BS l=s:=⟨_,rfl⟩;rw[hs] at x2 hz c0 ci;obtain⟨t,ht⟩: ∃t,BS v=t:=⟨_,rfl⟩;have ci':Hid (∀w,Calls Tryz.prog 181 #[.string s,.int .i64 0] w fun e w'=>e= .returned (.tuple #[.string t,.int .i64 n,.int .i64 0])∧Below w.heap.size w w'):=by rw[←ht];exact ci
   rw[ht] at cv⊢;clear hQ2 ci hle hv;go_enter Tryz.func125,Tryz.ntmps125;go_wp2_with fail;refine(ci'.out _).mono ?_;rintro e w1 ⟨rfl,B⟩;have H1:=H.out.on B;have f1:=H1.fro;have d1:=H1.cell;rw[hs] at d1;have S:=Lh (H1.set (l.drop n));have B1:=Lh (Only.of (D:=D) B);clear B H1 H hs;go_wp2_with fail;refine(cv.out _).mono ?_;rintro e w2 ⟨rfl,rfl⟩;go_wp2_with fail;go_ret2;exact⟨rfl,S.out.1,B1.out.trans S.out.2⟩
  |false=>
   rw[hv] at hQ2 cv;rw[if_neg (by simp)] at hQ2;rw[hQ2];show Calls _ _ _ _ fun e w'=>e= .returned (.tuple #[.string ByteArray.empty,.bool false])∧Lft D l w'∧Only D w w'
   obtain⟨s,hs⟩: ∃s,BS l=s:=⟨_,rfl⟩;rw[hs] at x2 hz c0 ci;obtain⟨t,ht⟩: ∃t,BS v=t:=⟨_,rfl⟩;have ci':Hid (∀w,Calls Tryz.prog 181 #[.string s,.int .i64 0] w fun e w'=>e= .returned (.tuple #[.string t,.int .i64 n,.int .i64 0])∧Below w.heap.size w w'):=by rw[←ht];exact ci
   rw[ht] at cv;clear hQ2 ci hle hv;go_enter Tryz.func125,Tryz.ntmps125;go_wp2_with fail;refine(ci'.out _).mono ?_;rintro e w1 ⟨rfl,B⟩;have H1:=Lh (H.out.on B);have B1:=Lh (Only.of (D:=D) B);clear B H hs;go_wp2_with fail;refine(cv.out _).mono ?_;rintro e w2 ⟨rfl,rfl⟩;go_wp2_with fail;go_ret2;exact⟨rfl,H1.out,B1.out⟩
 ·rw[if_neg (fun h=>he h.1)] at hQ2;rw[hQ2];show Calls _ _ _ _ fun e w'=>e= .returned (.tuple #[.string ByteArray.empty,.bool false])∧Lft D l w'∧Only D w w'
  have n1:(e !=0)=true:=by simpa using he
  obtain⟨s,hs⟩: ∃s,BS l=s:=⟨_,rfl⟩;rw[hs] at hz c0 ci;obtain⟨t,ht⟩: ∃t,BS v=t:=⟨_,rfl⟩;have ci':Hid (∀w,Calls Tryz.prog 181 #[.string s,.int .i64 0] w fun x w'=>x= .returned (.tuple #[.string t,.int .i64 n,.int .i64 e])∧Below w.heap.size w w'):=by rw[←ht];exact ci
  clear hQ2 ci hle cv;go_enter Tryz.func125,Tryz.ntmps125;go_wp2_with fail;refine(ci'.out _).mono ?_;rintro e w1 ⟨rfl,B⟩;have H1:=Lh (H.out.on B);have B1:=Lh (Only.of (D:=D) B);clear B H hs;go_wp2_with fail;go_ret2;exact⟨rfl,H1.out,B1.out⟩
theorem Lft.new (l:List UInt8) (w:World):Lft w.heap.size l (w.alloc (.cells #[.string (BS l)] 119))∧Below w.heap.size w (w.alloc (.cells #[.string (BS l)] 119)):=
 ⟨World.alloc_heap_new _ _,(Below.refl _ _).alloc (Nat.le_refl _) _⟩
theorem Only.onB {B D:Nat} {w0 w w':World} (h:Below B w0 w) (hD:B≤D) (ho:Only D w w') (hs:B≤w.heap.size):Below B w0 w':=h.trans (ho.below hD hs)
def qnH:List UInt8:=[72,69,76,80]
def qnE:List UInt8:=[84,89,80,69]
def kindN (l:List UInt8):Nat:=
 if tb l=[] then 0 else if (tb l).head?==some 35 then (if wd (tb (tb l).tail)=qnH then 2 else if wd (tb (tb l).tail)=qnE then 3 else 4) else 1
def qsX:Nat→ByteArray
 |0=>⟨#[101,109,112,116,121]⟩
 |1=>⟨#[115,97,109,112,108,101]⟩
 |2=>⟨#[104,101,108,112]⟩
 |3=>⟨#[116,121,112,101]⟩
 |_=>⟨#[99,111,109,109,101,110,116]⟩
theorem qbg (l:List UInt8):(tb l).length≤l.length:=by
 unfold tb Lib.trimLeftS;exact(List.dropWhile_suffix _).length_le
theorem qdI (l:List UInt8) (hl:l.length≤65536) (w:World):Calls Tryz.prog 36 #[.string (BS l)] w fun e w'=>e= .returned (.string (qsX (kindN l)))∧Below w.heap.size w w':=by
 have N:=Lh (Lft.new l w);obtain⟨k,hk⟩: ∃k,Hid (k=kindN l):=⟨_,Lh rfl⟩;have hk2:=hk.out;rw[←hk2];have hl1:=Nat.le_trans (qbg l) hl;have cb1:=Lh (fun W (h:Lft w.heap.size l W)=>qao w.heap.size l W h);unfold kindN at hk2;obtain⟨a,ha⟩: ∃a,tb l=a:=⟨_,rfl⟩;rw[ha] at hk2 hl1 cb1;have cby:=Lh (fun W (h:Lft w.heap.size a W)=>qcQ w.heap.size 35 a W h);clear hk;go_enter Tryz.func36,Tryz.ntmps36;go_wp2_with fail;refine(cb1.out _ N.out.1).mono ?_;rintro e w1 ⟨rfl,H1,O1⟩;have B1:=Lh (Only.onB N.out.2 (Nat.le_refl _) O1 (by simp));clear cb1 O1 N;have c1:=H1.cell
 by_cases he:a=[]
 ·subst he;rw[if_pos rfl] at hk2;subst hk2;have hem:(BS ([]:List UInt8)).toList.isEmpty=true:=by rw[qad];rfl
  clear ha cby;go_wp2_with fail;go_ret;exact⟨rfl,B1.out⟩
 ·rw[if_neg he] at hk2;have hem:(BS a).toList.isEmpty=false:=by rw[qad];simpa using he
  replace H1:=Lh H1
  cases hb:(a.head?==some 35)with
  |false=>
   rw[hb] at cby hk2;rw[if_neg (by simp)] at hk2;subst hk2;clear ha hb;go_wp2_with fail;refine(cby.out _ H1.out).mono ?_;rintro e w2 ⟨rfl,H2,O2⟩;have B2:=Lh (Only.onB B1.out (Nat.le_refl _) O2 B1.out.size);clear cby H1 B1 O2 H2;go_wp2_with fail;go_ret;exact⟨rfl,B2.out⟩
  |true=>
   rw[hb] at cby hk2;rw[if_pos rfl] at hk2;have hl2:(tb a.tail).length≤65536:=Nat.le_trans (qbg _) (by rw[List.length_tail];omega);have cb2:=Lh (fun W (h:Lft w.heap.size a.tail W)=>qao w.heap.size a.tail W h);have cw:=Lh (fun W (h:Lft w.heap.size (tb a.tail) W)=>qbO w.heap.size (tb a.tail) hl2 W h);clear ha hb;go_wp2_with fail;refine(cby.out _ H1.out).mono ?_;rintro e w2 ⟨rfl,H2,O2⟩;have B2:=Lh (Only.onB B1.out (Nat.le_refl _) O2 B1.out.size);replace H2:=Lh H2;clear cby H1 B1 O2;go_wp2_with fail;refine(cb2.out _ H2.out).mono ?_;rintro e w3 ⟨rfl,H3,O3⟩;have B3:=Lh (Only.onB B2.out (Nat.le_refl _) O3 B2.out.size);replace H3:=Lh H3;clear cb2 H2 B2 O3;go_wp2_with fail;refine(cw.out _ H3.out).mono ?_;rintro e w4 ⟨rfl,H4,O4⟩;have B4:=Lh (Only.onB B3.out (Nat.le_refl _) O4 B3.out.size);clear cw H3 B3 O4 H4;generalize wd (tb a.tail)=v at hk2⊢;have tv:=qad v
   by_cases h1:v=qnH
   ·rw[if_pos h1] at hk2;subst hk2 h1;unfold qnH at tv⊢;go_wp2_with fail;go_ret;exact⟨rfl,B4.out⟩
   ·rw[if_neg h1] at hk2;unfold qnH at h1;have h1':(v==([72,69,76,80]:List UInt8))=false:=by simpa using h1
    by_cases h2:v=qnE
    ·rw[if_pos h2] at hk2;subst hk2 h2;unfold qnE at tv⊢h1' h1;go_wp2_with fail;go_ret;exact⟨rfl,B4.out⟩
    ·rw[if_neg h2] at hk2;unfold qnE at h2;have h2':(v==([84,89,80,69]:List UInt8))=false:=by simpa using h2
     subst hk2;go_wp2_with fail;go_ret;exact⟨rfl,B4.out⟩
abbrev eqF (q:Nat):Value:= .func (.func 127) #[] #[.pointer (some ⟨q,0,none⟩)]
theorem qrI (x:Lb) (n:List UInt8) (q:Nat) (w:World) (hq:q<w.heap.size) (hc:w.cell? ⟨q,0,none⟩=some (.string (BS n))):Calls Tryz.prog 127 #[.agg #[.string (BS x.1),.string (BS x.2)],.pointer (some ⟨q,0,none⟩)] w fun e w'=>e= .returned (.bool (x.1==n))∧Below w.heap.size w w':=by
 have hB: ∀ob,Hid (Below w.heap.size w (w.alloc ob)):=fun ob=>Lh ((Below.refl _ _).alloc (Nat.le_refl _) ob)
 have he:((BS x.1).toList==(BS n).toList)=(x.1==n):=by rw[qad,qad]
 obtain⟨b,hb⟩: ∃b,(x.1==n)=b:=⟨_,rfl⟩;rw[hb] at he⊢;clear hb;go_enter Tryz.func127,Tryz.ntmps127;go_wp2_with fail;go_ret;exact⟨by rw[←he];rfl,(hB _).out⟩
def qb2 (ls:List Lb) (n:List UInt8):Bool:=ls.any (fun x=>x.1==n)
theorem qfq (ls:List Lb) (n:List UInt8) (i:Nat) (h:i<ls.length):qb2 (ls.drop i) n=((ls.getD i lb0).1==n||qb2 (ls.drop (i+1)) n):=by
 rw[qgf ls i h];rfl
theorem qpC (v:Value) (ls:List Lb) (n:List UInt8) (hl:ls.length≤1000000000) (q:Nat) (w:World) (hq:q<w.heap.size) (hc:w.cell? ⟨q,0,none⟩=some (.string (BS n))) (hr:qaN w v ls):
 Calls Tryz.prog 168 #[v,eqF q] w fun e w'=>(∃k:Int,e= .returned (.int .i64 k)∧decide (0≤k)=qb2 ls n)∧Below w.heap.size w w':=by
 obtain⟨a,c,rfl⟩:=hr.shape;have hrh:=Lh hr;clear hr;obtain⟨G,hG⟩: ∃G,Hid (G=qb2 ls n):=⟨_,Lh rfl⟩;rw[←hG.out];obtain⟨m,hm⟩: ∃m,m=ls.length:=⟨_,rfl⟩;have hmh:=Lh hm;rw[←hm] at hl⊢;clear hm;have cF:=Lh (fun (W:World) (x:Lb) (hB:Below w.heap.size w W)=>qrI x n q W (Nat.lt_of_lt_of_le hq hB.size) ((hB.cell (p:=⟨q,0,none⟩) hq).trans hc));clear hc hq;go_enter Tryz.func168,Tryz.ntmps168;go_wp2_with fail;go_loopg [8] (m+1) (fun gk s8 wx=> ∃i:Nat,i≤m∧m - i<gk∧s8= .int .i64 (i:Int)∧Hid (G=qb2 (ls.drop i) n)∧Hid (Below w.heap.size w wx))
 case atStart=>exact⟨0,by omega,by omega,rfl,Lh hG.out,Lh (Below.refl _ _)⟩
 case round=>
  obtain⟨i,hi,hgk,rfl,hI,B⟩:=hrel
  by_cases hlt:i<m
  ·have u2:decide ((i:Int)<(m:Int))=true:=dT (by omega);have u3:decide (i<m)=true:=dT hlt;have hil:i<ls.length:=by rw[←hmh.out];exact hlt
   obtain⟨b,off,rfl,hbl,x1,x2⟩:=(hrh.out.on B.out).at' i hil;have hI2:=hI.out;rw[qfq ls n i hil] at hI2;obtain⟨x,hx⟩: ∃x,Hid (x=ls.getD i lb0):=⟨_,Lh rfl⟩;rw[←hx.out] at x1 x2 hI2;have cf:=cF.out wr x B.out
   cases hxn:(x.1==n)with
   |true=>
    rw[hxn] at hI2 cf;have hR:=Lh hI2;replace cf:=Lh cf;clear hxn hI hI2 cF;go_wp2_with fail;refine cf.out.mono ?_;rintro e w2 ⟨rfl,B2⟩;have B3:=Lh (B.out.trans (B2.mono B.out.size));clear B2 cf;go_wp2_with fail;go_ret;exact⟨⟨_,rfl,by rw[hR.out];exact dT (by omega)⟩,B3.out⟩
   |false=>
    rw[hxn] at hI2 cf;have hR:=Lh hI2;replace cf:=Lh cf;clear hxn hI hI2 cF;go_wp2_with fail;refine cf.out.mono ?_;rintro e w2 ⟨rfl,B2⟩;have B3:=Lh (B.out.trans (B2.mono B.out.size));clear B2 cf;go_wp2_with fail;go_roundg (gk - 1)
    case measure=>omega
    case rel=>exact⟨i+1,by omega,by omega,by go_num,Lh (by rw[hR.out];rfl),B3⟩
  ·obtain rfl:i=m:=by omega
   have u2:decide ((i:Int)<(i:Int))=false:=dF (by omega);have hF:Hid (G=false):=Lh (by rw[hI.out,List.drop_of_length_le (by rw[←hmh.out];exact Nat.le_refl _)];rfl);clear hI;go_wp2_with fail;go_ret;exact⟨⟨_,rfl,by rw[hF.out];rfl⟩,B.out⟩
theorem qsV (v:Value) (ls:List Lb) (n:List UInt8) (hl:ls.length≤1000000000) (q:Nat) (w:World) (hq:q<w.heap.size) (hc:w.cell? ⟨q,0,none⟩=some (.string (BS n))) (hr:qaN w v ls):
 Calls Tryz.prog 126 #[v,eqF q] w fun e w'=>e= .returned (.bool (qb2 ls n))∧Below w.heap.size w w':=by
 have ci:=Lh (qpC v ls n hl q w hq hc hr);obtain⟨a,c,rfl⟩:=hr.shape;clear hr hc;go_enter Tryz.func126,Tryz.ntmps126;go_wp2_with fail;refine ci.out.mono ?_;rintro e w2 ⟨⟨k,rfl,hk⟩,B2⟩;have hk2:decide (k≥0)=qb2 ls n:=hk;clear hk;go_wp2_with fail;go_ret;exact⟨by rw[←hk2];rfl,B2⟩
theorem qgm {P:Program} {ops:Array Oper} {rest:List Oper} {o:Oper} {a:Act} {Q:Exit→Act→World→Prop} {w:World} (hgd:o.guard=none) (s x:Operand) (t:TypeId)
 (ho:o.op= .call {callee:= .builtin .append,args:=#[s,x],argTypes:=#[t,t]})
 {e:TypeId} (k:Nat) (C:Array Value) (hC:C.size=k) (hk:0<k) (base:Nat) (z:Value) (bytes:Nat) (ht:P.underlying t=some (.slice e)) (hinfo:(P.info? e).map (fun i=>(i.zero,i.size,i.bytes))=some (some z,k,bytes)) (hzs:z.cells.size=k)
 (v:Value) (n:Nat) (xs:List Value) (hs:a.eval s=v) (hx:a.eval x= .slice (some ⟨w.heap.size,0,none⟩) 1 1) (hown:w.ownsRow base e k v n xs) (hu: ∀u∈C.toList,u.oneCell'=true)
 (hb1:1≤bytes) (hbytes:(n+1)*bytes≤140737488355328) (hbase:base≤w.heap.size)
 (h: ∀v' w',w'.ownsRow base e k v' (n+1) (xs++C.toList)→Below base w w'→w.heap.size≤w'.heap.size→(∀row,v.ownBlock≠some row→row<w.heap.size→w'.heap[row]?=w.heap[row]?)→(∃g cap,v'= .slice (some ⟨g,0,none⟩) (n+1) cap)→wpList P ops Q rest (a.put o.dst v') w'):
 wpList P ops Q (o::rest) a (w.alloc (.cells C e)):=by
 obtain⟨i,hi,hz0,hz1,hz2⟩:=info_parts hinfo;have hn:n+1≤(n+1)*bytes:=Nat.le_mul_of_pos_right _ hb1;refine wpList_append_own _ hgd s x t ho base e i z k bytes ht hi hz0 hz1 hz2 hzs hk v n xs hs (hown.alloc _) ⟨w.heap.size,0,none⟩ 1 1 C.toList hx (by simp[hC]) ?_ hu (by unfold maxLen;omega) (by omega) (by simp;omega) ?_
 ·intro j u hj;rw[show(⟨w.heap.size,0,none⟩:Addr).add j=⟨w.heap.size,j,none⟩ by simp[Addr.add];omega,Lib.cell_of_heap (World.alloc_heap_new _ _)];simpa using hj
 intro v' w' hown' hg hnil;have hsz:w.heap.size+1≤w'.heap.size:=by have:=hg.size;simpa using this
 refine h v' w' hown' ?_ (by omega) ?_ ?_
 ·refine((Below.refl base w).alloc hbase _).grown hg (by simp;omega) (fun k e'=>?_);exact((hown.alloc (.cells C e)).lt k e').1
 ·intro row hrow hlt;rw[hg.block row (by simp;omega) (fun e'=>hrow e'.symm)];exact Below.heap_alloc _ _ _ hlt
 ·rcases hown'.2 with ⟨rfl,h0⟩|⟨g,cap,cur,rfl,_⟩
  ·omega
  ·exact⟨g,cap,rfl⟩
theorem qah {w w':World} {base e k n:Nat} {v:Value} {xs:List Value} (h:w.ownsRow base e k v n xs) (hb:Below w.heap.size w w'):w'.ownsRow base e k v n xs:=by
 refine⟨h.1,?_⟩;rcases h.2 with h'|⟨g,cap,cur,h1,h2,h3,h4⟩
 ·exact .inl h'
 ·exact .inr ⟨g,cap,cur,h1,h2,(hb.block g (Array.getElem?_eq_some_iff.1 h3).1).trans h3,h4⟩
theorem qae {W:World} {base e k n:Nat} {v:Value} {xs:List Value} (h:W.ownsRow base e k v n xs): ∃a c,v= .slice a n c:=by
 rcases h.2 with ⟨h1,h2⟩|⟨g,cap,cur,h1,_⟩
 ·exact⟨_,_,by rw[h1,h2]⟩
 ·exact⟨_,_,h1⟩
def qaX (x:Lb):List Value:=[.string (BS x.1),.string (BS x.2)]
def qaa (ls:List Lb):List Value:=ls.flatMap qaX
theorem qaw: ∀ls:List Lb,(qaa ls).length=ls.length*2
 | []=>rfl
 |p::ws=>by
  have:=qaw ws;simp only[qaa,List.flatMap_cons,List.length_append,List.length_cons] at this⊢;simp only[qaX,List.length_cons,List.length_nil];omega
theorem qbL: ∀(ws:List Lb) (i:Nat) (h:i<ws.length),(qaa ws)[i*2]?=some (.string (BS (ws.getD i lb0).1))∧(qaa ws)[i*2+1]?=some (.string (BS (ws.getD i lb0).2))
 | [],i,h=>by simp at h
 |p::ws,0,h=>⟨rfl,rfl⟩
 |p::ws,i+1,h=>by
  have:=qbL ws i (by simpa using h);rw[show(i+1)*2=i*2+2 by omega];exact this
theorem qaN.of_owned {W:World} {base:Nat} {v:Value} {ls:List Lb} (h:W.ownsRow base 44 2 v ls.length (qaa ls)):qaN W v ls:=by
 rcases h.2 with ⟨h1,h2⟩|⟨g,cap,cur,h1,h2,h3,h4,h5,h6,h7⟩
 ·exact .inl ⟨none,0,fun _=>rfl,h1,List.eq_nil_of_length_eq_zero h2⟩
 ·refine .inr ⟨g,0,cap,h1,(Array.getElem?_eq_some_iff.1 h3).1,h4,h5,fun i hi=>?_⟩
  have hc: ∀j,j<ls.length*2→W.cell? ⟨g,j,none⟩=(qaa ls)[j]?:=fun j hj=>by
   rw[Lib.cell_of_heap h3,←h7,List.getElem?_take_of_lt hj];simp
  rw[Nat.zero_add,hc _ (by omega),hc _ (by omega)];exact qbL ls i hi
theorem qcJ:(Tryz.prog.info? 44).map (fun i=>(i.zero,i.size,i.bytes))=some (some (.agg #[.string ⟨#[]⟩,.string ⟨#[]⟩]),2,32):=by kernel_rfl
theorem qam {w w':World} {base e k n D:Nat} {v:Value} {xs:List Value} (h:w.ownsRow base e k v n xs) (hb:Only D w w') (hD:D<base):w'.ownsRow base e k v n xs:=by
 refine⟨h.1,?_⟩;rcases h.2 with h'|⟨g,cap,cur,h1,h2,h3,h4⟩
 ·exact .inl h'
 ·exact .inr ⟨g,cap,cur,h1,h2,(hb.block g (Array.getElem?_eq_some_iff.1 h3).1 (by omega)).trans h3,h4⟩
theorem Only.then_below {D B:Nat} {a b c:World} (h:Only D a b) (k:Below B b c) (hB:a.heap.size≤B):Only D a c:=
 ⟨k.os.trans h.os,k.tape.trans h.tape,k.output.trans h.output,Nat.le_trans h.size k.size,fun i hi hn=>(k.block i (by omega)).trans (h.block i hi hn)⟩
def qag:List UInt8:=[95,95,110,97,109,101,95,95]
def qgc:Nat→List UInt8→List Lb→Int×List Lb×List UInt8
 |0,_,_=>(231,[],[])
 |f+1,l,out=>
  if (l.head?==some 125)=true then (0,out,l.tail)
  else if (qan 95 (nm 95 l)&&(tb (nr 95 l)).head?==some 61)=true then
   match quo (tb (tb (nr 95 l)).tail)with
   |none=>(231,[],[])
   |some (v,r)=>
    if (nm 95 l==qag||qb2 out (nm 95 l))=true then (232,[],[])
    else if ((tb r).head?==some 44)=true then qgc f (tb (tb r).tail) (out++[(nm 95 l,v)])
    else if ((tb r).head?==some 125)=true then qgc f (tb r) (out++[(nm 95 l,v)])
    else (231,[],[])
  else (231,[],[])
def qcj (l:List UInt8):Int×List Lb×List UInt8:=qgc (l.length+1) (tb l) []
theorem qhA {l v r:List UInt8} (h:quo l=some (v,r)):r.length≤l.length:=by
 unfold quo at h
 split at h
 ·simp only[Option.some.injEq,Prod.mk.injEq] at h;rw[←h.2,List.length_drop];omega
 ·cases h
theorem qoQ (o:UInt8) (l:List UInt8):(nm o l).length+(nr o l).length=l.length:=by
 have:=congrArg List.length (List.takeWhile_append_dropWhile (p:=nch o) (l:=l));rw[List.length_append] at this;exact this
theorem qdS {o:UInt8} {l:List UInt8} (h:qan o l=true):1≤l.length:=by
 unfold qan at h;simp at h;have:=h.1.1;omega
theorem qgB (l:List UInt8):(wr l).length≤l.length:=(List.dropWhile_suffix _).length_le
end Go.Proofs.YtdeimnnpcfncpaaGreatDoor.X
