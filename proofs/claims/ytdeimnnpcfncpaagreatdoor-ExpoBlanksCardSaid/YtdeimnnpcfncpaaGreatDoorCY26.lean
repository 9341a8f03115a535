/- Parts of the proof: A12 A13 A14 A15 A16 A17. -/
import Derived.Shelf.SlSortCmp.NoneTotal
import Derived.Test.YtdeimnnpcfncpaaGreatDoorCY25
set_option linter.unusedVariables false
set_option linter.unusedSimpArgs false
set_option maxRecDepth 100000
set_option maxHeartbeats 64000000
section
namespace Go.Proofs.YtdeimnnpcfncpaaGreatDoor.X
open Go Go.RowKit
def qi7 (D:Nat) (w0:World) (l:List UInt8) (out:List Lb) (v:Value) (W:World):Prop:=
 Lft D l W∧Only D w0 W∧W.ownsRow w0.heap.size 44 2 v out.length (qaa out)
theorem qi7.step {D:Nat} {w0:World} {l r:List UInt8} {out:List Lb} {v:Value} {W W':World} (h:qi7 D w0 l out v W) (hD:D<w0.heap.size) (h1:Lft D r W') (h2:Only D W W'):qi7 D w0 r out v W':=
 ⟨h1,h.2.1.trans h2,qam h.2.2 h2 hD⟩
theorem qi7.on {D:Nat} {w0:World} {l:List UInt8} {out:List Lb} {v:Value} {W W':World} (h:qi7 D w0 l out v W) (hD:D<w0.heap.size) (h2:Below W.heap.size W W'):qi7 D w0 l out v W':=
 h.step hD (h.1.on h2) (Only.of h2)
def qiw (q:Nat) (n:List UInt8) (W:World):Prop:=W.heap[q]?=some (.cells #[.string (BS n)] 9 (0,0))
theorem qiw.lt {q:Nat} {n:List UInt8} {W:World} (h:qiw q n W):q<W.heap.size:=(Array.getElem?_eq_some_iff.1 h).1
theorem qiw.cell {q:Nat} {n:List UInt8} {W:World} (h:qiw q n W):W.cell? ⟨q,0,none⟩=some (.string (BS n)):=by rw[Lib.cell_of_heap h];rfl
theorem qiw.step {q D:Nat} {n:List UInt8} {W W':World} (h:qiw q n W) (hn:D<q) (h2:Only D W W'):qiw q n W':=(h2.block q h.lt (by omega)).trans h
theorem qiw.on {q:Nat} {n:List UInt8} {W W':World} (h:qiw q n W) (h2:Below W.heap.size W W'):qiw q n W':=(h2.block q h.lt).trans h
theorem qi7.app {D:Nat} {w0:World} {l:List UInt8} {out:List Lb} {v v2:Value} {x:Lb} {W W':World} (h:qi7 D w0 l out v W) (hD:D<w0.heap.size) (h2:Below w0.heap.size W W') (ho:W'.ownsRow w0.heap.size 44 2 v2 (out.length+1) (qaa out++qaX x)):qi7 D w0 l (out++[x]) v2 W':=
 ⟨(h2.block D hD).trans h.1,h.2.1.then_below h2 (Nat.le_refl _),by
   rw[List.length_append,show qaa (out++[x])=qaa out++qaX x by simp[qaa]]
   exact ho⟩
theorem qiw.new (n:List UInt8) (W:World):qiw W.heap.size n (W.alloc (.cells #[.string (BS n)] 9)):=World.alloc_heap_new _ _
theorem qk2 (D:Nat) (l:List UInt8) (hl:l.length≤65536) (w:World) (h:Lft D l w):Calls Tryz.prog 72 #[.pointer (some ⟨D,0,none⟩)] w fun e w'=>
 ∃v,e= .returned (.tuple #[v,.int .i64 (qcj l).1])∧Only D w w'∧((qcj l).1=0→qi7 D w (qcj l).2.2 (qcj l).2.1 v w'):=by
 have hD:=h.lt;have H:=Lh h;have hl1:=Nat.le_trans (qbg l) hl;have hf1:Hid ((tb l).length<l.length+1):=Lh (by have:=qbg l;omega);obtain⟨R,hR⟩: ∃R,Hid (qgc (l.length+1) (tb l) []=R):=⟨_,Lh rfl⟩;rw[show qcj l=R from hR.out];obtain⟨F,hF⟩: ∃F,l.length+1=F:=⟨_,rfl⟩;rw[hF] at hR hf1;clear h hF;go_enter Tryz.func72,Tryz.ntmps72;go_wp2_with fail;go_step3;go_wp2_with fail;refine(qao D l _ H.out).mono ?_;rintro e w1 ⟨rfl,H1,O1⟩;have I0:Hid (qi7 D w (tb l) [] (.slice none 0 0) w1):=Lh ⟨H1,O1,⟨rfl,.inl ⟨rfl,rfl⟩⟩⟩;clear H1 O1 H;generalize tb l=l1 at hl1 hf1 hR I0;go_wp2_with fail;go_step3;go_wp2_with fail;go_loopg [4,5] F (fun gk s4 s5 wx=> ∃(l:List UInt8) (out:List Lb),s5= .int .i64 0∧l.length<gk∧l.length+out.length≤65536∧Hid (qgc gk l out=R)∧Hid (qi7 D w l out s4 wx))
 case atStart=>exact⟨l1,[],rfl,hf1.out,by simp;omega,hR,I0⟩
 case round=>
  clear hR I0 hl1 hf1;obtain⟨l,out,rfl,hg,hlo,hR,I⟩:=hrel;obtain⟨g,rfl⟩: ∃g,gk=g+1:=⟨gk - 1,by omega⟩;have hR':=hR.out;rw[qgc] at hR';have c1:=qcQ D 125 l _ I.out.1
  cases hb:(l.head?==some 125)with
  |true=>
   rw[hb] at c1 hR';rw[if_pos rfl] at hR' c1;subst hR';replace c1:=Lh c1;clear hb hR;go_wp2_with fail;refine c1.out.mono ?_;rintro e w2 ⟨rfl,H2,O2⟩;have I2:=Lh (I.out.step hD H2 O2);clear H2 O2 c1 I;obtain⟨a4,c4,rfl⟩:=qae I2.out.2.2;go_wp2_with fail;simp only[Exit.noGoto];go_ret2;exact⟨_,rfl,I2.out.2.1,fun _=>I2.out⟩
  |false=>
   rw[hb] at c1 hR';rw[if_neg (by simp)] at hR' c1;replace c1:=Lh c1;have hnl:=qoQ 95 l;have cn:=Lh (fun W h=>qkX D 95 l (by omega) W h);obtain⟨n,hn⟩: ∃n,nm 95 l=n:=⟨_,rfl⟩;obtain⟨l1,hl1⟩: ∃l1,nr 95 l=l1:=⟨_,rfl⟩;rw[hn,hl1] at hR' cn hnl;replace hR':=Lh hR';clear hb hR hn hl1;go_wp2_with fail;refine c1.out.mono ?_;rintro e w2 ⟨rfl,H2,O2⟩;have I2:=Lh (I.out.step hD H2 O2);clear H2 O2 c1 I;go_wp2_with fail;refine(cn.out _ I2.out.1).mono ?_;rintro e w3 ⟨rfl,H3,O3⟩;have I3:=Lh (I2.out.step hD H3 O3);clear H3 O3 cn I2;go_wp2_with fail;have hq:D<w3.heap.size:=Nat.lt_of_lt_of_le hD I3.out.2.1.size;have I4:=Lh (I3.out.on hD ((Below.refl w3.heap.size w3).alloc (Nat.le_refl _) (.cells #[.string (BS n)] 9)));have N4:=Lh (qiw.new n w3);clear I3;generalize w3.alloc (.cells #[.string (BS n)] 9)=w4 at I4 N4⊢;generalize w3.heap.size=q at hq N4⊢;refine(qao D l1 _ I4.out.1).mono ?_;rintro e w5 ⟨rfl,H5,O5⟩;have I5:=Lh (I4.out.step hD H5 O5);have N5:=N4.out.step hq O5;have hc5:=N5.cell;replace N5:=Lh N5;clear H5 O5 I4 N4;have cnm:=qhM (BS n) (by rw[qac];omega) w5;rw[show(BS n).data.toList=n by simp[BS]] at cnm;have hl2:=qbg l1;have hR2:=hR'.out;obtain⟨l2,hl2'⟩: ∃l2,tb l1=l2:=⟨_,rfl⟩;rw[hl2'] at hR2 hl2 I5;clear hl2' hR'
   cases hnm:qan 95 n with
   |false=>
    rw[hnm] at cnm hR2;rw[if_neg (by simp)] at hR2;subst hR2;replace cnm:=Lh cnm;clear hnm;go_wp2_with fail;refine cnm.out.mono ?_;rintro e w6 ⟨rfl,rfl⟩;go_wp2_with fail;simp only[Exit.noGoto];go_ret2;exact⟨_,rfl,I5.out.2.1,fun h=>by cases h⟩
   |true=>
    rw[hnm] at cnm hR2;replace cnm:=Lh cnm;have hnp:=qdS hnm;have c2:=qcQ D 61 l2 _ I5.out.1
    cases hb:(l2.head?==some 61)with
    |false=>
     rw[hb] at c2 hR2;rw[if_neg (by simp)] at hR2 c2;subst hR2;replace c2:=Lh c2;clear hb hnm;go_wp2_with fail;refine cnm.out.mono ?_;rintro e w6 ⟨rfl,rfl⟩;go_wp2_with fail;refine c2.out.mono ?_;rintro e w6 ⟨rfl,H6,O6⟩;have I6:=Lh (I5.out.step hD H6 O6);clear H6 O6 c2 I5;go_wp2_with fail;simp only[Exit.noGoto];go_ret2;exact⟨_,rfl,I6.out.2.1,fun h=>by cases h⟩
    |true=>
     rw[hb] at c2 hR2;rw[if_pos (show(true&&true)=true from rfl)] at hR2;rw[if_pos rfl] at c2;replace c2:=Lh c2;clear hb hnm;go_wp2_with fail;refine cnm.out.mono ?_;rintro e w6 ⟨rfl,rfl⟩;go_wp2_with fail;refine c2.out.mono ?_;rintro e w6 ⟨rfl,H6,O6⟩;have I6:=Lh (I5.out.step hD H6 O6);have N6:=Lh (N5.out.step hq O6);clear H6 O6 c2 I5 N5 cnm hc5;go_wp2_with fail;refine(qao D l2.tail _ I6.out.1).mono ?_;rintro e w7 ⟨rfl,H7,O7⟩;have I7:=Lh (I6.out.step hD H7 O7);have N7:=Lh (N6.out.step hq O7);clear H7 O7 I6 N6;have hl3:=qbg l2.tail;rw[List.length_tail] at hl3;obtain⟨l3,hl3'⟩: ∃l3,tb l2.tail=l3:=⟨_,rfl⟩;rw[hl3'] at hR2 hl3 I7;have cq:=qk3 D l3 (by omega) w7 I7.out.1;clear hl3'
     cases hqv:quo l3 with
     |none=>
      rw[hqv] at cq hR2;simp only at hR2;subst hR2;replace cq:=Lh (show Calls Tryz.prog 125 #[.pointer (some ⟨D,0,none⟩)] w7 fun e w'=>e= .returned (.tuple #[.string ByteArray.empty,.bool false])∧Lft D l3 w'∧Only D w7 w' from cq);clear hqv;go_wp2_with fail;refine cq.out.mono ?_;rintro e w8 ⟨rfl,H8,O8⟩;have I8:=Lh (I7.out.step hD H8 O8);clear H8 O8 cq I7;go_wp2_with fail;simp only[Exit.noGoto];go_ret2;exact⟨_,rfl,I8.out.2.1,fun h=>by cases h⟩
     |some vr=>
      obtain⟨v,r⟩:=vr;have hrl:=qhA hqv;rw[hqv] at cq hR2;simp only at hR2;replace cq:=Lh (show Calls Tryz.prog 125 #[.pointer (some ⟨D,0,none⟩)] w7 fun e w'=>e= .returned (.tuple #[.string (BS v),.bool true])∧Lft D r w'∧Only D w7 w' from cq);clear hqv;go_wp2_with fail;refine cq.out.mono ?_;rintro e w8 ⟨rfl,H8,O8⟩;have I8:=Lh (I7.out.step hD H8 O8);have N8:=N7.out.step hq O8;have hc8:=N8.cell;have hq8:=N8.lt;replace N8:=Lh N8;clear H8 O8 cq I7 N7;have tn:=qad n;have LR:=qaN.of_owned I8.out.2.2;obtain⟨a4,c4,rfl⟩:=qae I8.out.2.2;have ccf:=qsV _ out n (by omega) q w8 hq8 hc8 LR;clear LR
      cases hsn:(n==qag)with
      |true=>
       have hsn':(n==([95,95,110,97,109,101,95,95]:List UInt8))=true:=hsn;rw[hsn] at hR2;rw[if_pos (show(true||_)=true from rfl)] at hR2;subst hR2;clear hsn ccf;go_wp2_with fail;simp only[Exit.noGoto];go_ret2;exact⟨_,rfl,I8.out.2.1,fun h=>by cases h⟩
      |false=>
       have hsn':(n==([95,95,110,97,109,101,95,95]:List UInt8))=false:=hsn;rw[hsn] at hR2
       cases hha:qb2 out n with
       |true=>
        rw[hha] at hR2 ccf;rw[if_pos (show(false||true)=true from rfl)] at hR2;subst hR2;replace ccf:=Lh ccf;clear hsn hha;go_wp2_with fail;refine ccf.out.mono ?_;rintro e w9 ⟨rfl,B9⟩;have I9:=Lh (I8.out.on hD B9);clear ccf I8 B9;go_wp2_with fail;simp only[Exit.noGoto];go_ret2;exact⟨_,rfl,I9.out.2.1,fun h=>by cases h⟩
       |false=>
        rw[hha] at hR2 ccf;rw[if_neg (show¬(false||false)=true from by decide)] at hR2;replace ccf:=Lh ccf;clear hsn hha;go_wp2_with fail;refine ccf.out.mono ?_;rintro e w9 ⟨rfl,B9⟩;have I9:=Lh (I8.out.on hD B9);have N9:=N8.out.on B9;have hc9:=N9.cell;clear ccf I8 B9 hc8 N8 N9;have hBs:=I9.out.2.1.size;go_wp2_with (at_builtin;go_must (refine qgm rfl (.tmp 48) (.tmp 52) 31 rfl 2 #[.string (BS n),.string (BS v)] rfl (by decide) w.heap.size (.agg #[.string ⟨#[]⟩,.string ⟨#[]⟩]) 32 (by kernel_rfl) qcJ rfl _ out.length (qaa out) rfl rfl I9.out.2.2 (by intro u hu;simp at hu;rcases hu with rfl|rfl<;>rfl) (by decide) (by omega) hBs ?_);rintro v2 w10 hown2' hb5 _ _ _;have I10:=Lh (I9.out.app hD hb5 (x:=(n,v)) hown2');clear hown2' hb5 I9 hBs);refine(qao D r _ I10.out.1).mono ?_;rintro e w11 ⟨rfl,H11,O11⟩;have I11:=Lh (I10.out.step hD H11 O11);clear H11 O11 I10 hc9 tn hsn';have hl4:=qbg r;obtain⟨l4,hl4'⟩: ∃l4,tb r=l4:=⟨_,rfl⟩;rw[hl4'] at hR2 hl4 I11;clear hl4';have c4:=qcQ D 44 l4 _ I11.out.1
        cases hb:(l4.head?==some 44)with
        |true=>
         rw[hb] at c4 hR2;rw[if_pos rfl] at hR2 c4;replace c4:=Lh c4;replace hR2:=Lh hR2
         have hne:1≤l4.length:=by
          cases l4 with
          |nil=>simp at hb
          |cons _ _=>simp
         clear hb;go_wp2_with fail;refine c4.out.mono ?_;rintro e w12 ⟨rfl,H12,O12⟩;have I12:=Lh (I11.out.step hD H12 O12);clear H12 O12 c4 I11;go_wp2_with fail;refine(qao D l4.tail _ I12.out.1).mono ?_;rintro e w13 ⟨rfl,H13,O13⟩;have I13:=Lh (I12.out.step hD H13 O13);have hl5:=qbg l4.tail;rw[List.length_tail] at hl5;clear H13 O13 I12;go_wp2_with fail;go_roundg g
         case measure=>omega
         case rel=>exact⟨_,_,rfl,by omega,by rw[List.length_append,List.length_singleton];omega,hR2,I13⟩
        |false=>
         rw[hb] at c4 hR2;rw[if_neg (by simp)] at hR2 c4;replace c4:=Lh c4;clear hb;go_wp2_with fail;refine c4.out.mono ?_;rintro e w12 ⟨rfl,H12,O12⟩;have hc12:=H12.cell;have I12:=Lh (I11.out.step hD H12 O12);clear H12 O12 c4 I11
         cases l4 with
         |nil=>
          have hem:(BS ([]:List UInt8)).toList.isEmpty=true:=by rw[qad];rfl
          rw[if_neg (by simp)] at hR2;subst hR2;go_wp2_with fail;simp only[Exit.noGoto];go_ret2;exact⟨_,rfl,I12.out.2.1,fun h=>by cases h⟩
         |cons y t4=>
          have hem:(BS (y::t4)).toList.isEmpty=false:=by rw[qad];rfl
          obtain⟨s4,hs4,hx0,hlen⟩: ∃s:ByteArray,s=BS (y::t4)∧(∃h:0<s.size,s[0]'h=y)∧s.size=t4.length+1:=
           ⟨_,rfl,⟨by rw[qac];simp,rfl⟩,by rw[qac];simp⟩
          rw[←hs4] at hem hc12;obtain⟨h0,hx0⟩:=hx0;clear hs4
          by_cases hy:y=125
          ·subst hy;rw[if_pos (by rfl)] at hR2;replace hR2:=Lh hR2;go_wp2_with fail;go_roundg g
           case measure=>omega
           case rel=>exact⟨_,_,rfl,by omega,by rw[List.length_append,List.length_singleton];omega,hR2,I12⟩
          ·have hyn:((y.toNat:Int) !=125)=true:=by
            rw[bne_iff_ne];intro h;apply hy;apply UInt8.toNat_inj.1;show y.toNat=125;omega
           rw[if_neg (by simpa using hy)] at hR2;subst hR2;go_wp2_with fail;simp only[Exit.noGoto];go_ret2;exact⟨_,rfl,I12.out.2.1,fun h=>by cases h⟩
structure EGlb (w:World):Prop where
 b:qmH w
 sx: ∃ev,w.cell? ⟨5,0,none⟩=some ev∧(ev= .nilIface∨ ∃te pe,ev= .iface te pe)
theorem EGlb.big {w:World} (h:EGlb w):16<w.heap.size:=h.b.a.p.f.big
theorem EGlb.on {w W:World} (h:EGlb w) (hb:Below w.heap.size w W):EGlb W:=by
 refine⟨h.b.on hb,?_⟩;obtain⟨ev,h1,h2⟩:=h.sx;exact⟨ev,by rw[hb.cell (p:=⟨5,0,none⟩) (by have:=h.big;show 5<_;omega)];exact h1,h2⟩
theorem qk8 (n:Int) (h0: -9223372036854775808≤n) (h1:n≤9223372036854775807) (w:World) (hG:EGlb w):
 Calls Tryz.prog 59 #[.int .i64 n] w fun e w'=>e= .returned (.string (BS (Lib.itoa n)))∧Below w.heap.size w w':=
 (Tryz.strconv_Itoa n h0 h1 w hG.b.a.tab).mono fun e w' ⟨h1,k,os,h2⟩=>⟨h1,h2▸Lib.below_grow _ w (Nat.le_refl _) k os⟩
def qf8 (l:List UInt8):Option Int:=match Lib.atoiAll l with| .ok v=>some v|_=>none
theorem qmE (l:List UInt8) (v:Int) (h:Lib.atoiAll l= .ok v): -9223372036854775808≤v∧v≤9223372036854775807:=by
 cases l with
 |nil=>simp[Lib.atoiAll] at h
 |cons c r=>
  simp only[Lib.atoiAll] at h;generalize Lib.parseMag (if c.toNat=43∨c.toNat=45 then r else c::r)=m at h
  cases m with
  |ok u=>
   simp only at h
   split at h
   ·cases h
   ·split at h
    ·cases h
    ·simp only[Lib.NumEnd.ok.injEq] at h
     split at h<;>omega
  |_=>simp at h
theorem qqb (l:List UInt8) (hl:l.length≤65536) (w:World) (hG:EGlb w):Calls Tryz.prog 133 #[.string (BS l)] w fun e w'=>
 (∃n ev,e= .returned (.tuple #[.int .i64 n,ev])∧((qf8 l=some n∧ev= .nilIface)∨(qf8 l=none∧ ∃t p,ev= .iface t p)))∧Below w.heap.size w w':=by
 have hz:=qac l;have hd:(BS l).data.toList=l:=by simp[BS]
 obtain⟨e5,c5,k5⟩:=hG.sx;obtain⟨e6,c6,k6⟩:=hG.b.a.p.er
 cases ha:Lib.atoiAll l with
 |ok v=>
  refine(Tryz.strconv_Atoi_ok (BS l) (by omega) v (by rw[hd];exact ha) w).mono ?_;rintro e w' ⟨rfl,hw⟩;refine⟨⟨_,_,rfl,.inl ⟨by unfold qf8;rw[ha],rfl⟩⟩,?_⟩;rcases hw with rfl|⟨t,rfl⟩
  ·exact Below.refl _ _
  ·exact Lib.bytesWorld_below w 5 t
 |range=>
  refine(Tryz.strconv_Atoi_range (BS l) (by omega) (by rw[hd];exact ha) e6 w c6 k6).mono ?_;rintro e w' ⟨N,rfl,_,_,hb⟩;exact⟨⟨_,_,rfl,.inr ⟨by unfold qf8;rw[ha],_,_,rfl⟩⟩,hb⟩
 |_=>
  refine(Tryz.strconv_Atoi_syntax (BS l) (by omega) (by rw[hd];exact ha) e5 w c5 k5).mono ?_;rintro e w' ⟨N,rfl,_,_,hb⟩;exact⟨⟨_,_,rfl,.inr ⟨by unfold qf8;rw[ha],_,_,rfl⟩⟩,hb⟩
def qkW (l:List UInt8):Option Int:=match qf8 l with|some n=>if Lib.itoa n=l then some n else none|none=>none
theorem qgx (l:List UInt8) (hl:l.length≤65536) (w:World) (hG:EGlb w):Calls Tryz.prog 75 #[.string (BS l)] w fun e w'=>
 (∃n,e= .returned (.tuple #[.int .i64 n,.bool (qkW l).isSome])∧ ∀v,qkW l=some v→n=v)∧Below w.heap.size w w':=by
 have ca:=Lh (qqb l hl w hG);have hGh:=Lh hG;have tl:=qad l;obtain⟨s,hs⟩: ∃s,BS l=s:=⟨_,rfl⟩;rw[hs] at ca tl⊢;clear hG;go_enter Tryz.func75,Tryz.ntmps75;go_wp2_with fail;refine ca.out.mono ?_;rintro e w1 ⟨⟨n,ev,rfl,h⟩,B⟩;rcases h with ⟨ha,rfl⟩|⟨ha,t,p,rfl⟩
 ·have hr: -9223372036854775808≤n∧n≤9223372036854775807:=by
   unfold qf8 at ha
   split at ha
   ·rename_i v hv;cases ha;exact qmE l n hv
   ·cases ha
  have ci:=Lh (qk8 n hr.1 hr.2 w1 (hGh.out.on B));have hN:Hid (qkW l=if Lib.itoa n=l then some n else none):=Lh (by unfold qkW;rw[ha]);have hB:=Lh B;have tn:=qad (Lib.itoa n);generalize Lib.itoa n=z at ci hN tn;clear B ca ha hr
  by_cases hz:z=l
  ·have hz':(z==l)=true:=by simpa using hz
   go_wp2_with fail;refine ci.out.mono ?_;rintro e w2 ⟨rfl,B2⟩;go_wp2_with fail;go_ret2;exact⟨⟨n,by rw[hN.out,if_pos hz];rfl,fun v hv=>by rw[hN.out,if_pos hz] at hv;exact Option.some.inj hv⟩,hB.out.trans (B2.mono hB.out.size)⟩
  ·have hz':(z==l)=false:=by simpa using hz
   go_wp2_with fail;refine ci.out.mono ?_;rintro e w2 ⟨rfl,B2⟩;go_wp2_with fail;go_ret2;exact⟨⟨n,by rw[hN.out,if_neg hz];rfl,fun v hv=>by rw[hN.out,if_neg hz] at hv;cases hv⟩,hB.out.trans (B2.mono hB.out.size)⟩
 ·have hN:Hid (qkW l=none):=Lh (by unfold qkW;rw[ha]);go_wp2_with fail;go_ret2;exact⟨⟨n,by rw[hN.out];rfl,fun v hv=>by rw[hN.out] at hv;cases hv⟩,B⟩
end Go.Proofs.YtdeimnnpcfncpaaGreatDoor.X
end
section
namespace Go.Proofs.YtdeimnnpcfncpaaGreatDoor.X
open Go Go.RowKit Go.Lib Go.Sort Go.Shelf
theorem qkl (x y:Lb) (W:World):Calls Tryz.prog 102 #[.agg #[.string (BS x.1),.string (BS x.2)],.agg #[.string (BS y.1),.string (BS y.2)]] W fun e w'=>e= .returned (.int .i64 (Lib.compareBytes x.1 y.1))∧ ∃q os',w'=grow (W.drewN q) os':=by
 have hcon:=fun W'=>Tryz.strings_Compare (BS x.1) (BS y.1) W'
 rw[show(BS x.1).data.toList=x.1 by simp[BS],show(BS y.1).data.toList=y.1 by simp[BS]] at hcon;generalize Lib.compareBytes x.1 y.1=r at hcon⊢;replace hcon:=Lh hcon;go_enter Tryz.func102,Tryz.ntmps102;go_wp2_with fail;refine(hcon.out _).mono ?_;rintro e w' ⟨rfl,rfl⟩;go_wp2_with fail;go_ret;exact⟨rfl,0,_,by rw[alloc_eq_grow,alloc_eq_grow,grow_grow];rfl⟩
def qjx (x y:Lb):Int:=Lib.compareBytes x.1 y.1
theorem qeL (blk off size:Nat) (w:World):CmpLays Tryz.prog 102 #[] qaX 2 qjx blk off size w:=
 fun _ _ _ _ x y=>qkl x y _
theorem qq5: ∀a b:List UInt8,Lib.compareBytes a b<0↔a<b
 | [],[]=>by simp[Lib.compareBytes]
 | [],_::_=>by simp[Lib.compareBytes]
 |_::_,[]=>by simp[Lib.compareBytes]
 |a::a2,b::b2=>by
  have ih:=qq5 a2 b2;unfold Lib.compareBytes;rw[List.cons_lt_cons_iff]
  by_cases h1:a<b
  ·rw[if_pos h1];simp[h1]
  ·rw[if_neg h1]
   by_cases h2:b<a
   ·rw[if_pos h2];simp only[h1,false_or];constructor
    ·intro h;omega
    ·rintro⟨rfl,_⟩;exact absurd h2 h1
   ·rw[if_neg h2]
    have:a=b:=by
     apply UInt8.toNat_inj.1;rw[UInt8.lt_iff_toNat_lt] at h1 h2;omega
    simp[this,ih]
theorem ltN (x y:Lb):ltOf qjx x y=decide (x.1<y.1):=by
 unfold ltOf qjx;rw[Bool.eq_iff_iff,decide_eq_true_iff,decide_eq_true_iff];exact qq5 x.1 y.1
theorem qbV (a:List UInt8): ¬a<a:=List.lt_irrefl a
theorem qiO {a b c:List UInt8} (h:a<b) (k:b<c):a<c:=List.lt_trans h k
theorem qs1 {a b c:List UInt8} (h: ¬a<b) (k: ¬b<c): ¬a<c:=fun h2=>
 List.not_lt.2 (List.le_trans (List.not_lt.1 k) (List.not_lt.1 h)) h2
theorem qpg {a b:List UInt8} (h: ¬a<b) (k: ¬b<a):a=b:=List.le_antisymm (List.not_lt.1 k) (List.not_lt.1 h)
theorem qtk:SWO (ltOf qjx):={
 irrefl:=fun x=>by rw[ltN];exact dF (qbV _)
 trans:=fun x y z h1 h2=>by
  rw[ltN] at*;exact dT (qiO (of_decide_eq_true h1) (of_decide_eq_true h2))
 ntrans:=fun x y z h1 h2=>by
  rw[ltN] at*
  exact dF (qs1 (of_decide_eq_false h1) (of_decide_eq_false h2))}
end Go.Proofs.YtdeimnnpcfncpaaGreatDoor.X
end
section
namespace Go.Proofs.YtdeimnnpcfncpaaGreatDoor.X
open Go Go.RowKit Go.Shelf Go.Lib Go.Sort
theorem qjT (ls:List Lb):flatK qaX 2 ls.toArray=(qaa ls).toArray:=by
 apply Array.ext
 ·simp[qaw]
 ·intro t h1 h2;have ht:t<ls.length*2:=by simpa using h1
  have hg:=get_flatK qaX 2 ls.toArray t (by simpa using ht);rw[getElem!_pos _ t h1] at hg;rw[hg];obtain⟨a1,a2⟩:=qbL ls (t/2) (by omega)
  have hd:(ls.toArray)[t/2]! =ls.getD (t/2) lb0:=by
   rw[getElem!_pos _ _ (by simp;omega),List.getD_eq_getElem?_getD,List.getElem?_eq_getElem (by omega)];simp
  rw[hd]
  have hx:(qaa ls)[t]?=some ((qaa ls).toArray[t]'h2):=by
   rw[List.getElem?_eq_getElem (by simpa using h2)];simp
  rcases(show t%2=0∨t%2=1 by omega)with hm|hm
  ·rw[show t/2*2=t by omega,hx] at a1;rw[hm,Option.some.inj a1];rfl
  ·rw[show t/2*2+1=t by omega,hx] at a2;rw[hm,Option.some.inj a2];rfl
theorem qed {w:World} {base g cap:Nat} {cur:Array Value} {ls ls':List Lb} (n:Nat) (os:Array Obj) (hb:base≤g) (h3:w.heap[g]?=some (.cells cur 44 (0,0))) (h4:ls.length≤cap) (h5:cap≤maxLen) (h6:cur.size=cap*2) (hl:ls'.length=ls.length) (hbw:base≤w.heap.size):
 (sortWorldK qaX 2 w g 0 n ls'.toArray os).ownsRow base 44 2 (.slice (some ⟨g,0,none⟩) ls.length cap) ls'.length (qaa ls')∧Below base w (sortWorldK qaX 2 w g 0 n ls'.toArray os):=by
 have hg:=(Array.getElem?_eq_some_iff.1 h3).1;have hF:=qjT ls';have hll:=qaw ls'
 have hblk:(putRow id (Go.Sort.ahead w n) g 0 (qaa ls').toArray).heap[g]?=some (.cells (putCells id 0 (qaa ls').toArray cur) 44 (0,0)):=by
  unfold putRow mapBlock Go.Sort.ahead;simp[Array.getElem?_modify,h3,onCells]
 have hW:sortWorldK qaX 2 w g 0 n ls'.toArray os=grow (putRow id (Go.Sort.ahead w n) g 0 (qaa ls').toArray) os:=by
  unfold sortWorldK putRowK;rw[hF]
 rw[hW]
 have hsz:(putRow id (Go.Sort.ahead w n) g 0 (qaa ls').toArray).heap.size=w.heap.size:=by
  unfold putRow mapBlock Go.Sort.ahead;simp
 refine⟨⟨hll,.inr ⟨g,cap,putCells id 0 (qaa ls').toArray cur,by rw[hl],hb,?_,by omega,h5,by unfold putCells;simp[h6],?_⟩⟩,⟨rfl,rfl,rfl,by rw[Go.Sort.size_grow,hsz];omega,fun k hk=>?_⟩⟩
 ·rw[Go.Sort.heap_grow_old _ _ (by rw[hsz];exact hg)];exact hblk
 ·apply List.ext_getElem?;intro j;rw[List.getElem?_take]
  by_cases hj:j<ls'.length*2
  ·rw[if_pos hj];unfold putCells;simp only[Array.getElem?_toList,Array.getElem?_mapIdx];rw[Array.getElem?_eq_getElem (show j<cur.size by omega)];simp[hll,hj]
  ·rw[if_neg hj,List.getElem?_eq_none (by omega)]
 ·rw[Go.Sort.heap_grow_old _ _ (by rw[hsz];omega)];unfold putRow mapBlock Go.Sort.ahead;simp[Array.getElem?_modify,show g≠k by omega]
def qsw (ls:List Lb):Prop:= ∀i j,i<j→j<ls.length→ ¬(ls.getD j lb0).1<(ls.getD i lb0).1
theorem qqn (v:Value) (ls:List Lb) (base:Nat) (w:World) (h:w.ownsRow base 44 2 v ls.length (qaa ls)) (hb:base≤w.heap.size) (hl:ls.length≤1000000):
 Calls Tryz.prog 101 #[v,.func (.func 102) #[] #[]] w fun e w'=>e= .returned (.tuple #[])∧ ∃ls':List Lb,ls'.Perm ls∧qsw ls'∧w'.ownsRow base 44 2 v ls'.length (qaa ls')∧Below base w w':=by
 rcases h.2 with ⟨rfl,h0⟩|⟨g,cap,cur,rfl,hbg,h3,h4,h5,h6,h7⟩
 ·refine(AnyF.slices_SortFunc_none Tryz.sortLb none 0 _ w).mono ?_;rintro e w' ⟨rfl,rfl⟩;have:ls=[]:=List.eq_nil_of_length_eq_zero h0;subst this;exact⟨rfl,[],.refl _,fun i j _ hj=>absurd hj (Nat.not_lt_zero _),h,Go.RowKit.Below.refl _ _⟩
 ·have hg:=(Array.getElem?_eq_some_iff.1 h3).1;have eg: ∀args w,(callFunc 102 args).run Tryz.prog w= .ok (.enter 102 args) w:=enters_of Tryz.func102 (by kernel_rfl) rfl
  have hH:HoldsK qaX 2 w g 0 ls.toArray:=by
   unfold HoldsK;rw[qjT];intro j hj;have hj2:j<(qaa ls).length:=by simpa using hj
   rw[Nat.zero_add];refine⟨?_,Lib.frozen_of_heap h3 j⟩;rw[Lib.cell_of_heap h3];have:(cur.toList.take (ls.length*2))[j]?=(qaa ls)[j]?:=by rw[h7]
   rw[List.getElem?_take_of_lt (by rw[←qaw];exact hj2)] at this;rw[←Array.getElem?_toList,this,List.getElem?_eq_getElem hj2,getElem!_pos _ j hj];simp
  have hc:=AnyQ.slices_SortFunc Tryz.sortLb 2 Tryz.isAgg44 Tryz.sizeOf44 qaX (fun _=>rfl) (fun x v hv=>by simp[qaX] at hv;rcases hv with rfl|rfl<;>rfl) qjx qtk 102 #[] g 0 cap ls.toArray w eg (qeL g 0 ls.toArray.size w) hH hg (by simp;omega);have hc':Calls Tryz.prog 101 #[.slice (some ⟨g,0,none⟩) ls.length cap,.func (.func 102) #[] #[]] w _:=hc;refine hc'.mono ?_;rintro e w' ⟨rfl,d',n,os,hp,hs,rfl⟩;obtain⟨p1,_,p3⟩:=hp;have hd:d'.toList.length=ls.length:=by simpa using p1
  refine⟨rfl,d'.toList,?_,?_,?_⟩
  ·have p4:(d'.extract 0 ls.length).toList.Perm (ls.toArray.extract 0 ls.length).toList:=p3;simp only[Array.toList_extract,List.extract_eq_take_drop,Nat.sub_zero,List.drop_zero] at p4;rw[List.take_of_length_le (by omega),List.take_of_length_le (by simp)] at p4;exact p4
  ·intro i j hij hj hlt;have:=hs i j (Nat.zero_le _) hij (by simpa [hd] using hj);rw[ltN] at this;have h2:=of_decide_eq_false this;apply h2
   have e: ∀k,k<d'.toList.length→d'[k]! =d'.toList.getD k lb0:=fun k hk=>by
    rw[getElem!_pos d' k (by simpa using hk),List.getD_eq_getElem?_getD,List.getElem?_eq_getElem hk];simp
   rw[e j hj,e i (by omega)];exact hlt
  ·have:=qed (w:=w) (base:=base) (ls:=ls) (ls':=d'.toList) n os hbg h3 h4 h5 h6 hd hb;exact this
end Go.Proofs.YtdeimnnpcfncpaaGreatDoor.X
end
section
namespace Go.Proofs.YtdeimnnpcfncpaaGreatDoor.X
open Go Go.RowKit Go.Shelf
theorem qeu (ls:List Lb): ∀u∈qaa ls,u.oneCell'=true:=by
 intro u hu;obtain⟨x,_,hx⟩:=List.mem_flatMap.1 hu;simp[qaX] at hx;rcases hx with rfl|rfl<;>rfl
theorem qmL (v:Value) (ls:List Lb) (w:World) (h:qaN w v ls) (hne:ls≠[]∨v= .slice none 0 0) (hl:ls.length≤1000000):
 Calls Tryz.prog 100 #[v] w fun e w'=> ∃v',e= .returned v'∧w'.ownsRow w.heap.size 44 2 v' ls.length (qaa ls)∧Below w.heap.size w w':=by
 obtain⟨i,hi,hz0,hz1,hz2⟩:=info_parts qcJ
 have gen: ∀b off c,(∀j u,(qaa ls)[j]?=some u→w.cell? ⟨b,off+j,none⟩=some u)→Calls Tryz.prog 100 #[.slice (some ⟨b,off,none⟩) ls.length c] w fun e w'=> ∃v',e= .returned v'∧w'.ownsRow w.heap.size 44 2 v' ls.length (qaa ls)∧Below w.heap.size w w':=fun b off c hc=>by
  have hcon:=AnyE.slices_Clone Tryz.cloneLb i _ 2 32 hi hz0 hz1 hz2 rfl (by decide) Tryz.sizeOf44 b off ls.length c (qaa ls) w (qaw ls) (by unfold maxLen;omega) (by omega) hc (qeu ls);have hc':Calls Tryz.prog 100 #[.slice (some ⟨b,off,none⟩) ls.length c] w _:=hcon;refine hc'.mono ?_;rintro e w' ⟨v',rfl,ho,_,hb⟩;exact⟨v',rfl,ho,hb⟩
 rcases h with ⟨a,c,hac,rfl,rfl⟩|⟨b,off,cap,rfl,h2,h3,h4,h5⟩
 ·cases a with
  |none=>
   obtain rfl:=hac rfl;refine(show Calls Tryz.prog 100 #[.slice none 0 0] w _ from AnyE.slices_Clone_nil Tryz.cloneLb 0 0 w).mono ?_;rintro e w' ⟨rfl,rfl⟩;exact⟨_,rfl,⟨rfl,.inl ⟨rfl,rfl⟩⟩,Below.refl _ _⟩
  |some p=>
   rcases hne with h|h
   ·exact absurd rfl h
   ·cases h
 ·refine gen b off cap (fun j u hj=>?_)
  have hjl:j<ls.length*2:=by
   have:=(List.getElem?_eq_some_iff.1 hj).1;rwa[qaw] at this
  obtain⟨a1,a2⟩:=qbL ls (j/2) (by omega);obtain⟨d1,d2⟩:=h5 (j/2) (by omega);rcases(show j%2=0∨j%2=1 by omega)with hm|hm
  ·have e:j/2*2=j:=by omega
   rw[e,hj] at a1;rw[e,←a1] at d1;exact d1
  ·have e:j/2*2+1=j:=by omega
   rw[e,hj] at a2;rw[Nat.add_assoc,e,←a2] at d2;exact d2
end Go.Proofs.YtdeimnnpcfncpaaGreatDoor.X
end
section
namespace Go.Proofs.YtdeimnnpcfncpaaGreatDoor.X
open Go Go.RowKit
def emp (x:Lb):Bool:=x.2.isEmpty
abbrev qtm:Value:= .func (.func 104) #[] #[]
theorem qkU (x:Lb) (w:World):Calls Tryz.prog 104 #[.agg #[.string (BS x.1),.string (BS x.2)]] w fun e w'=>e= .returned (.bool (emp x))∧Below w.heap.size w w':=by
 have hB: ∀ob,Hid (Below w.heap.size w (w.alloc ob)):=fun ob=>Lh ((Below.refl _ _).alloc (Nat.le_refl _) ob)
 have he:(BS x.2).toList.isEmpty=emp x:=by rw[qad];rfl
 generalize emp x=b at he⊢;go_enter Tryz.func104,Tryz.ntmps104;go_wp2_with fail;go_ret;exact⟨by first|(rw[←he];rfl)|rfl,(hB _).out⟩
def qi8:List Lb→Nat→Int
 | [],_=> -1
 |x::t,i=>if emp x then (i:Int) else qi8 t (i+1)
theorem qkG (v:Value) (ls:List Lb) (hl:ls.length≤1000000000) (w:World) (hr:qaN w v ls):
 Calls Tryz.prog 168 #[v,qtm] w fun e w'=>e= .returned (.int .i64 (qi8 ls 0))∧Below w.heap.size w w':=by
 obtain⟨a,c,rfl⟩:=hr.shape;have hrh:=Lh hr;clear hr;obtain⟨G,hG⟩: ∃G,Hid (G=qi8 ls 0):=⟨_,Lh rfl⟩;rw[←hG.out];obtain⟨m,hm⟩: ∃m,m=ls.length:=⟨_,rfl⟩;have hmh:=Lh hm;rw[←hm] at hl⊢;clear hm;go_enter Tryz.func168,Tryz.ntmps168;go_wp2_with fail;go_loopg [8] (m+1) (fun gk s8 wx=> ∃i:Nat,i≤m∧m - i<gk∧s8= .int .i64 (i:Int)∧Hid (G=qi8 (ls.drop i) i)∧Hid (Below w.heap.size w wx))
 case atStart=>exact⟨0,by omega,by omega,rfl,Lh hG.out,Lh (Below.refl _ _)⟩
 case round=>
  obtain⟨i,hi,hgk,rfl,hI,B⟩:=hrel
  by_cases hlt:i<m
  ·have u2:decide ((i:Int)<(m:Int))=true:=dT (by omega);have u3:decide (i<m)=true:=dT hlt;have hil:i<ls.length:=by rw[←hmh.out];exact hlt
   obtain⟨b,off,rfl,hbl,x1,x2⟩:=(hrh.out.on B.out).at' i hil;have hI2:=hI.out;rw[qgf ls i hil] at hI2;obtain⟨x,hx⟩: ∃x,Hid (x=ls.getD i lb0):=⟨_,Lh rfl⟩;rw[←hx.out] at x1 x2 hI2;unfold qi8 at hI2;have cf:=qkU x wr
   cases hxn:emp x with
   |true=>
    rw[hxn] at hI2 cf;have hR:=Lh hI2;replace cf:=Lh cf;clear hxn hI hI2;go_wp2_with fail;refine cf.out.mono ?_;rintro e w2 ⟨rfl,B2⟩;have B3:=Lh (B.out.trans (B2.mono B.out.size));clear B2 cf;go_wp2_with fail;go_ret;exact⟨by rw[hR.out];rfl,B3.out⟩
   |false=>
    rw[hxn] at hI2 cf;have hR:=Lh hI2;replace cf:=Lh cf;clear hxn hI hI2;go_wp2_with fail;refine cf.out.mono ?_;rintro e w2 ⟨rfl,B2⟩;have B3:=Lh (B.out.trans (B2.mono B.out.size));clear B2 cf;go_wp2_with fail;go_roundg (gk - 1)
    case measure=>omega
    case rel=>exact⟨i+1,by omega,by omega,by go_num,Lh (by rw[hR.out];rfl),B3⟩
  ·obtain rfl:i=m:=by omega
   have u2:decide ((i:Int)<(i:Int))=false:=dF (by omega);have hF:Hid (G= -1):=Lh (by rw[hI.out,List.drop_of_length_le (by rw[←hmh.out];exact Nat.le_refl _)];rfl);clear hI;go_wp2_with fail;go_ret;exact⟨by rw[hF.out];rfl,B.out⟩
end Go.Proofs.YtdeimnnpcfncpaaGreatDoor.X
end
