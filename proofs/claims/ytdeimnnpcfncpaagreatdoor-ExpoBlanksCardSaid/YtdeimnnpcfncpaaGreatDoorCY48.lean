/- Parts of the proof: GL. -/
import Derived.Test.YtdeimnnpcfncpaaGreatDoorCY26
set_option linter.unusedVariables false
set_option linter.unusedSimpArgs false
set_option maxRecDepth 100000
set_option maxHeartbeats 64000000
section
namespace Go
variable {H:Type} {enc:TypeId×Value→H}
theorem returnsInHanded_of_change_both {a:Assume} {C:Checked} {os:Os} {f:FuncId} {fn:Func} {s:ChangeSpec} {conds:List PathCond} {apart fresh handsOn again:Bool} {X:World→Array Value→Prop}
 (hX: ∀(w w':World) (args:Array Value),w.heap=w'.heap→X w args→X w' args)
 (own:ownKnob C.prog.godebug=none) (started:os.Started) (noInit:C.prog.inits.idxOf? f=none) (hfn:C.prog.funcs[f]?=some fn)
 (witness: ∃(w:World) (tape:Tape) (i:Input),w.os=os∧(w.forCall tape i).Shaped C.prog∧i.vars=[]∧Input.okWide C.prog (w.forCall tape i) .any w.heap.size f i∧
   ((s.pre enc C.prog fn conds apart (w.forCall tape i).memory i.args∧X (w.forCall tape i).memory i.args)∧sizedMet enc C.prog fn (OpenSpec.ofChange s) apart (w.forCall tape i).memory i.args)∧a.holds C.prog (lone (Frame.enter C.prog f i.args .normal) [] (w.forCall tape i)))
 (contract: ∀(W:World) (base:Nat) (args:Array Value) (ds gs:List (DataW H)) (before:List MemPlace),
   (∀(j:Nat) t v,fn.params[j]?=some t→args[j]?=some v→Value.okWide C.prog W .any base t v)→
   DataW.Whole enc C.prog fn.params.toList s.vars apart W args.toList ds gs before→
   conds.all (PathCond.test C.prog ⟨fn.params.toList,ds,s.plain.varTypes C.prog,gs⟩)=true→
   (DataW.weightsEach C.prog (fn.params.toList++s.plain.varTypes C.prog) (ds++gs)).all (· ≤reachBytes)=true→X W args→W.ShapedOpen C.prog→
   a.holds C.prog (lone (Frame.enter C.prog f args .normal) [] W)→
   Calls C.prog f args W fun e W'=> ∃v,e= .returned v∧s.post enc C.prog fn apart fresh handsOn again W args v W'):
 ReturnsInHanded a C os f .any (fun w args=>(s.pre enc C.prog fn conds apart w args∧X w args)∧sizedMet enc C.prog fn (OpenSpec.ofChange s) apart w args) (s.post enc C.prog fn apart fresh handsOn again):=by
 refine returnsInHanded_of_calls own started noInit witness ?_;intro w tape i _ hsh _ hok hpre hholds;obtain⟨_,_,_,fn',hfn',_,_,_,_,hval⟩:=hok;have e:fn'=fn:=Option.some.inj (hfn'.symm.trans hfn);subst e;obtain⟨⟨⟨ds,gs,before,hw,hc⟩,hx⟩,hz⟩:=hpre;have hw':=DataW.Whole.of_heap (w':=w.forCall tape i) (by rfl) hw;refine(contract (w.forCall tape i) w.heap.size i.args ds gs before hval hw' hc (hz.weights hw) (hX _ _ _ (by rfl) hx) hsh hholds).mono fun e W' ⟨v,he,hp⟩=>?_
 subst he;exact ChangeSpec.post_blind hp
end Go
namespace Go.Proofs.YtdeimnnpcfncpaaGreatDoor
open Go.RowKit Go.ChangeShapes Go.WideShapes
abbrev LaidL:List (String×DataW Unit):=[("math/bits.deBruijn32tab",Rows.laid_math_bits_deBruijn32tab),("math/bits.deBruijn64tab",Rows.laid_math_bits_deBruijn64tab),("internal/strconv.float32info",Rows.laid_internal_strconv_float32info),("internal/strconv.float64info",Rows.laid_internal_strconv_float64info),("internal/strconv.optimize",Rows.laid_internal_strconv_optimize),("internal/strconv.powtab",Rows.laid_internal_strconv_powtab),("internal/strconv.float64pow10",Rows.laid_internal_strconv_float64pow10),("internal/strconv.float32pow10",Rows.laid_internal_strconv_float32pow10),("internal/strconv.uint64pow10",Rows.laid_internal_strconv_uint64pow10),("unicode/utf8.acceptRanges",Rows.laid_unicode_utf8_acceptRanges),("strconv.ErrRange",Rows.laid_strconv_ErrRange),("strconv.ErrSyntax",Rows.laid_strconv_ErrSyntax),("internal/strconv.leftcheats",Rows.laid_internal_strconv_leftcheats),("internal/strconv.pow10Tab",Rows.laid_internal_strconv_pow10Tab),("unicode/utf8.first",Rows.laid_unicode_utf8_first)]
theorem gS:Tryz.prog.globalNamed "strconv.ErrSyntax" =some 5:=by kernel_rfl
theorem gR:Tryz.prog.globalNamed "strconv.ErrRange" =some 6:=by kernel_rfl
theorem gP:Tryz.prog.globalNamed "internal/strconv.uint64pow10" =some 4:=by kernel_rfl
theorem gO:Tryz.prog.globalNamed "internal/strconv.optimize" =some 10:=by kernel_rfl
theorem gI:Tryz.prog.globalNamed "internal/strconv.float64info" =some 11:=by kernel_rfl
theorem gF:Tryz.prog.globalNamed "internal/strconv.float64pow10" =some 14:=by kernel_rfl
theorem gT:Tryz.prog.globalNamed "internal/strconv.pow10Tab" =some 15:=by kernel_rfl
theorem tS:(Tryz.prog.globals[5]?).map (·.type)=some 82:=by kernel_rfl
theorem tR:(Tryz.prog.globals[6]?).map (·.type)=some 82:=by kernel_rfl
theorem tP:(Tryz.prog.globals[4]?).map (·.type)=some 282:=by kernel_rfl
theorem tO:(Tryz.prog.globals[10]?).map (·.type)=some 4:=by kernel_rfl
theorem tI:(Tryz.prog.globals[11]?).map (·.type)=some 332:=by kernel_rfl
theorem tF:(Tryz.prog.globals[14]?).map (·.type)=some 366:=by kernel_rfl
theorem tT:(Tryz.prog.globals[15]?).map (·.type)=some 370:=by kernel_rfl
theorem qhP:Tryz.prog.cellsOf 351=1:=by kernel_rfl
theorem qks:Tryz.prog.cellsOf 9=1:=by kernel_rfl
theorem cells3:Tryz.prog.cellsOf 3=1:=by kernel_rfl
theorem qgI:Tryz.prog.cellsOf 24=1:=by kernel_rfl
theorem qmp:Tryz.prog.cellsOf 182=1:=by kernel_rfl
theorem qou:Tryz.prog.cellsOf 86=1:=by kernel_rfl
theorem qmB:Tryz.prog.cellsOf 282=20:=by kernel_rfl
theorem qlK:Tryz.prog.cellsOf 332=3:=by kernel_rfl
theorem qhw:Tryz.prog.cellsOf 369=2:=by kernel_rfl
theorem star: "*" ++ "errors.errorString" = "*errors.errorString" :=by decide
theorem qop (u:TypeId) (h:Tryz.prog.typeName? 3 u=some "*errors.errorString"):u=349:=
 typeName_ptr_named (nm:= "errors.errorString") (by rw[star];kernel_rfl) (by kernel_rfl) (by decide) u (by rw[star];exact h)
theorem qiC {H:Type} {enc:TypeId×Value→H} {P:Program} {w:World} {base:Nat} {sp:Nat→Bool} {held:Bool} {fuel:Nat} {t:TypeId} {cs:List Value} {x:DataW H×List MemPlace} {k:FloatKind} (ht:P.underlying t=some (.float k)) (h:DataW.trod enc P w base sp held fuel t cs=some x): ∃n,cs=[.float k n]∧x=(.lit (.float k n),[]):=by
 cases fuel with
 |zero=>simp[DataW.trod] at h
 |succ n=>
  unfold DataW.trod at h;rw[ht] at h
  split at h<;>simp_all
theorem qlM:Pinned.pow10Rows=qqH.map (fun x=>(x.1,x.2.1)):=by decide+kernel
theorem qr7 {W:World} (h:Lib.VarReads Tryz.prog W "internal/strconv.pow10Tab" Rows.laid_internal_strconv_pow10Tab):qqJ W:=by
 intro i hi;obtain⟨g,t,cs,fuel,p,hg,hty,hvar,hd⟩:=h;obtain rfl:=Option.some.inj (gT.symm.trans hg);obtain rfl:=Option.some.inj (tT.symm.trans hty);have e0:Rows.laid_internal_strconv_pow10Tab= .agg (Pinned.pow10Rows.map fun x=> .agg [.lit (.int .u64 x.1),.lit (.int .u64 x.2)]):=rfl;rw[e0] at hd;obtain⟨fuel',d,q,hdi,he⟩:=Lib.array_elem Tryz.underlying370 hd i hi
 have hrows:Pinned.pow10Rows[i]?=some (thi i,tlo i):=by
  rw[qlM,List.getElem?_map,List.getElem?_eq_getElem (by rw[qha];exact hi)];unfold thi tlo;rw[List.getElem?_eq_getElem (by rw[qha];exact hi)];rfl
 rw[List.getElem?_map,hrows,Option.map_some,Option.some.injEq] at hdi;subst hdi;rw[qhw] at he
 have hcs:=Lib.ints_of_struct (zs:=[(thi i:Int),(tlo i:Int)]) Tryz.underlying369 (fun j f hj=>by
  match j,hj with
  |0,hj=>simp at hj;subst hj;exact⟨Tryz.underlying24,rfl,qgI⟩
  |1,hj=>simp at hj;subst hj;exact⟨Tryz.underlying24,rfl,qgI⟩
  |j+2,hj=>simp at hj) (by rw[qhw];rfl) he
 have e0:=congrArg (·[0]?) hcs;have e1:=congrArg (·[1]?) hcs;simp only[List.getElem?_take,List.getElem?_drop] at e0 e1;constructor
 ·rw[World.var?_cell hg hvar (i*2),←Array.getElem?_toList];simpa using e0
 ·rw[World.var?_cell hg hvar (i*2+1),←Array.getElem?_toList];simpa using e1
theorem qrN {W:World} (h:Lib.VarReads Tryz.prog W "internal/strconv.optimize" Rows.laid_internal_strconv_optimize):W.cell? ⟨10,0,none⟩=some (.bool true):=by
 obtain⟨g,t,cs,fuel,p,hg,hty,hvar,hd⟩:=h;obtain rfl:=Option.some.inj (gO.symm.trans hg);obtain rfl:=Option.some.inj (tO.symm.trans hty);obtain⟨b,hcs,hx⟩:=DataW.trod_bool Tryz.underlying4 hd
 have hb:b=true:=by
  have e:(DataW.lit (.bool true):DataW Unit)= .lit (.bool b):=congrArg Prod.fst hx;simpa using e.symm
 subst hb;rw[World.var?_cell hg hvar 0,←Array.getElem?_toList,hcs];rfl
theorem qpp {W:World} (h:Lib.VarReads Tryz.prog W "internal/strconv.float64info" Rows.laid_internal_strconv_float64info):W.cell? ⟨11,0,none⟩=some (.int .u64 52)∧W.cell? ⟨11,1,none⟩=some (.int .u64 11)∧W.cell? ⟨11,2,none⟩=some (.int .i64 (-1023)):=by
 obtain⟨g,t,cs,fuel,p,hg,hty,hvar,hd⟩:=h;obtain rfl:=Option.some.inj (gI.symm.trans hg);obtain rfl:=Option.some.inj (tI.symm.trans hty);obtain⟨xs,n,_,hx,hl,hxl,hf⟩:=DataW.trod_struct Tryz.underlying332 hd;rw[qlK] at hl
 match hcs:cs.toList,hl,xs,hxl with
 | [c0,c1,c2],_,[x0,x1,x2],_=>
   rw[hcs] at hf;have f0:DataW.trod (fun _=>()) Tryz.prog W 0 (fun _=>true) false n 86 ([c0,c1,c2].take (Tryz.prog.cellsOf 86))=some x0:=hf 0 _ rfl;have f1:DataW.trod (fun _=>()) Tryz.prog W 0 (fun _=>true) false n 86 ([c1,c2].take (Tryz.prog.cellsOf 86))=some x1:=hf 1 _ rfl;have f2:DataW.trod (fun _=>()) Tryz.prog W 0 (fun _=>true) false n 3 ([c2].take (Tryz.prog.cellsOf 3))=some x2:=hf 2 _ rfl;rw[qou] at f0 f1;rw[cells3] at f2;obtain⟨n0,g0,y0,_⟩:=DataW.trod_int Tryz.underlying86 f0;obtain⟨n1,g1,y1,_⟩:=DataW.trod_int Tryz.underlying86 f1;obtain⟨n2,g2,y2,_⟩:=DataW.trod_int Tryz.underlying3 f2;subst y0 y1 y2;simp at g0 g1 g2;subst g0 g1 g2;have e:(Rows.laid_internal_strconv_float64info:DataW Unit)= .agg [.lit (.int .u64 n0),.lit (.int .u64 n1),.lit (.int .i64 n2)]:=congrArg Prod.fst hx;unfold Rows.laid_internal_strconv_float64info at e;simp only[DataW.agg.injEq,List.cons.injEq,DataW.lit.injEq,Lit.int.injEq,true_and,and_true] at e;obtain⟨rfl,rfl,rfl⟩:=e;refine⟨?_,?_,?_⟩
   ·rw[World.var?_cell hg hvar 0,←Array.getElem?_toList,hcs];rfl
   ·rw[World.var?_cell hg hvar 1,←Array.getElem?_toList,hcs];rfl
   ·rw[World.var?_cell hg hvar 2,←Array.getElem?_toList,hcs];rfl
def qsy:List Nat:=(List.range 23).map f10
theorem qnn:(Rows.laid_internal_strconv_float64pow10:DataW Unit)= .slice (qsy.map fun x=> .lit (.float .f64 x)) []:=by rfl
theorem qru {W:World} (h:Lib.VarReads Tryz.prog W "internal/strconv.float64pow10" Rows.laid_internal_strconv_float64pow10): ∃b off cap,W.cell? ⟨14,0,none⟩=some (.slice (some ⟨b,off,none⟩) 23 cap)∧b<W.heap.size∧ ∀k,k<23→W.cell? ⟨b,off+k,none⟩=some (.float .f64 (f10 k)):=by
 obtain⟨g,t,cs,fuel,p,hg,hty,hvar,hd⟩:=h;obtain rfl:=Option.some.inj (gF.symm.trans hg);obtain rfl:=Option.some.inj (tF.symm.trans hty);rw[qnn] at hd;rcases DataW.trod_slice Tryz.underlying366 hd with ⟨_,hx⟩|⟨a,l,c,elems,rest,n,_,hcs,hx,_,hl,hm,hlen,hel,_,_⟩
 ·cases congrArg Prod.fst hx
 ·have e:DataW.slice (qsy.map fun x=> .lit (.float .f64 x)) []=DataW.slice (elems.map (·.1)) (rest.map (·.1)):=congrArg Prod.fst hx;simp only[DataW.slice.injEq] at e;have he:=e.1
  have hl23:l=23:=by
   have:=congrArg List.length he;rw[List.length_map,List.length_map,hlen] at this;rw[←this];rfl
  subst hl23
  have key: ∀i,i<23→W.cell? (a.add i)=some (.float .f64 (f10 i)):=by
   intro i hi;have h1:=hel i hi;rw[qmp,Nat.mul_one,List.getElem?_eq_getElem (by omega),Option.bind_eq_some_iff] at h1;obtain⟨cs',e1,e2⟩:=h1;obtain⟨m,rfl,hy⟩:=qiC Tryz.underlying182 e2;have hc:=ChangeShapes.cell_of_cells?_one e1;rw[hc]
   have h3:(elems.map (·.1))[i]?=some (DataW.lit (.float .f64 m)):=by
    rw[List.getElem?_map,List.getElem?_eq_getElem (by omega),hy];rfl
   rw[←he,List.getElem?_map] at h3
   have h4:qsy[i]?=some (f10 i):=by
    unfold qsy;rw[List.getElem?_map,List.getElem?_range hi];rfl
   rw[h4] at h3;simp only[Option.map_some,Option.some.injEq,DataW.lit.injEq,Lit.float.injEq,true_and] at h3;rw[h3]
  have hs0:=key 0 (by omega);obtain⟨b,off,spot⟩:=a;have hspot:spot=none:=by simpa [Addr.add] using World.cell?_spot hs0
  subst hspot;refine⟨b,off,c,?_,?_,fun k hk=>?_⟩
  ·rw[World.var?_cell hg hvar 0,←Array.getElem?_toList,hcs];rfl
  ·rcases Nat.lt_or_ge b W.heap.size with h'|h'
   ·exact h'
   ·unfold World.cell? at hs0;rw[show((⟨b,off,none⟩:Addr).add 0).block=b from rfl,Array.getElem?_eq_none h'] at hs0;cases hs0
  ·have:=key k hk;rw[show(⟨b,off,none⟩:Addr).add k=⟨b,off+k,none⟩ by simp[Addr.add]] at this;exact this
theorem qsi {W:World} {n:String} {d:DataW Unit} (h:Lib.VarReads Tryz.prog W n d) (g0:Nat) (hg0:Tryz.prog.globalNamed n=some g0):g0<W.heap.size:=by
 obtain⟨g,t,cs,fuel,p,hg,hty,hvar,hd⟩:=h;obtain rfl:=Option.some.inj (hg0.symm.trans hg);rcases Nat.lt_or_ge g0 W.heap.size with h'|h'
 ·exact h'
 ·unfold World.var? at hvar;rw[hg0] at hvar;simp only[Option.bind_some] at hvar;rw[Array.getElem?_eq_none h'] at hvar;cases hvar
theorem gPt:Tryz.prog.globalNamed "internal/strconv.powtab" =some 13:=by kernel_rfl
theorem gLc:Tryz.prog.globalNamed "internal/strconv.leftcheats" =some 16:=by kernel_rfl
theorem tPt:(Tryz.prog.globals[13]?).map (·.type)=some 237:=by kernel_rfl
theorem tLc:(Tryz.prog.globals[16]?).map (·.type)=some 375:=by kernel_rfl
theorem qhs:Tryz.prog.cellsOf 374=2:=by kernel_rfl
theorem qow:(Rows.laid_internal_strconv_powtab:DataW Unit)= .slice (pbL.map fun (x:Nat)=> .lit (.int .i64 (x:Int))) []:=by rfl
theorem qp2:(Rows.laid_internal_strconv_leftcheats:DataW Unit)= .slice (Pinned.cheatRows.map fun x=> .agg [.lit (.int .i64 (x.1:Int)),.lit (.string x.2)]) []:=by rfl
theorem qnW:Pinned.cheatRows.length=61:=by decide+kernel
theorem qsL {W:World} (h:Lib.VarReads Tryz.prog W "internal/strconv.powtab" Rows.laid_internal_strconv_powtab):PtP W:=by
 obtain⟨g,t,cs,fuel,p,hg,hty,hvar,hd⟩:=h;obtain rfl:=Option.some.inj (gPt.symm.trans hg);obtain rfl:=Option.some.inj (tPt.symm.trans hty);rw[qow] at hd;rcases DataW.trod_slice Tryz.underlying237 hd with ⟨_,hx⟩|⟨a,l,c,elems,rest,n,_,hcs,hx,_,hl,hm,hlen,hel,_,_⟩
 ·cases congrArg Prod.fst hx
 ·have e:DataW.slice (pbL.map fun (x:Nat)=> .lit (.int .i64 (x:Int))) []=DataW.slice (elems.map (·.1)) (rest.map (·.1)):=congrArg Prod.fst hx;simp only[DataW.slice.injEq] at e;have he:=e.1
  have hl9:l=9:=by
   have:=congrArg List.length he;rw[List.length_map,List.length_map,hlen] at this;rw[←this];rfl
  subst hl9
  have key: ∀i,i<9→W.cell? (a.add i)=some (.int .i64 (ptb i:Int)):=by
   intro i hi;have h1:=hel i hi;rw[cells3,Nat.mul_one,List.getElem?_eq_getElem (by omega),Option.bind_eq_some_iff] at h1;obtain⟨cs',e1,e2⟩:=h1;obtain⟨m,rfl,hy,_⟩:=DataW.trod_int Tryz.underlying3 e2;have hc:=ChangeShapes.cell_of_cells?_one e1;rw[hc]
   have h3:(elems.map (·.1))[i]?=some (DataW.lit (.int .i64 m)):=by
    rw[List.getElem?_map,List.getElem?_eq_getElem (by omega),hy];rfl
   rw[←he,List.getElem?_map] at h3
   have h4:pbL[i]?=some (ptb i):=by
    unfold ptb;rw[List.getD_eq_getElem?_getD,List.getElem?_eq_getElem (by exact hi)];rfl
   rw[h4] at h3;simp only[Option.map_some,Option.some.injEq,DataW.lit.injEq,Lit.int.injEq,true_and] at h3;rw[h3]
  have hs0:=key 0 (by omega);obtain⟨b,off,spot⟩:=a;have hspot:spot=none:=by simpa [Addr.add] using World.cell?_spot hs0
  subst hspot;refine⟨b,off,c,?_,qfc hs0,fun k hk=>?_⟩
  ·rw[World.var?_cell hg hvar 0,←Array.getElem?_toList,hcs];rfl
  ·have:=key k hk;rw[show(⟨b,off,none⟩:Addr).add k=⟨b,off+k,none⟩ by simp[Addr.add]] at this;exact this
theorem qoj {α:Type} (l:List α) (h:l.length=2): ∃a b,l=[a,b]:=by
 rcases l with _|⟨a,_|⟨b,_|⟨c,t⟩⟩⟩
 ·cases h
 ·cases h
 ·exact⟨a,b,rfl⟩
 ·simp at h
theorem qsG {W:World} (h:Lib.VarReads Tryz.prog W "internal/strconv.leftcheats" Rows.laid_internal_strconv_leftcheats):LcP W:=by
 obtain⟨g,t,cs,fuel,p,hg,hty,hvar,hd⟩:=h;obtain rfl:=Option.some.inj (gLc.symm.trans hg);obtain rfl:=Option.some.inj (tLc.symm.trans hty);rw[qp2] at hd;rcases DataW.trod_slice Tryz.underlying375 hd with ⟨_,hx⟩|⟨a,l,c,elems,rest,n,_,hcs,hx,_,hl,hm,hlen,hel,_,_⟩
 ·cases congrArg Prod.fst hx
 ·have e:DataW.slice (Pinned.cheatRows.map fun x=> .agg [.lit (.int .i64 (x.1:Int)),.lit (.string x.2)]) []=DataW.slice (elems.map (·.1)) (rest.map (·.1)):=congrArg Prod.fst hx;simp only[DataW.slice.injEq] at e;have he:=e.1
  have hl61:l=61:=by
   have:=congrArg List.length he;rw[List.length_map,List.length_map,hlen] at this;rw[←this];exact qnW
  subst hl61
  have key: ∀i,i<61→W.cell? (a.add (i*2))=some (.int .i64 (ldl i:Int))∧W.cell? (a.add (i*2+1))=some (.string (lcs i)):=by
   intro i hi;have h1:=hel i hi;rw[qhs,List.getElem?_eq_getElem (by omega),Option.bind_eq_some_iff] at h1;obtain⟨cs',e1,e2⟩:=h1;obtain⟨g1,g2,g3⟩:=World.cells?_some e1;obtain⟨xs,n',_,hx',hl',hxl,hf⟩:=DataW.trod_struct Tryz.underlying374 e2;rw[qhs] at hl';obtain⟨v0,v1,rfl⟩:=qoj cs' hl';obtain⟨x0,x1,rfl⟩:=qoj xs hxl
   ·have f0:DataW.trod (fun _=>()) Tryz.prog W 0 (fun _=>true) false n' 3 ([v0,v1].take (Tryz.prog.cellsOf 3))=some x0:=hf 0 _ rfl;have f1:DataW.trod (fun _=>()) Tryz.prog W 0 (fun _=>true) false n' 9 ([v1].take (Tryz.prog.cellsOf 9))=some x1:=hf 1 _ rfl;rw[cells3] at f0;rw[qks] at f1;obtain⟨n0,q0,y0,_⟩:=DataW.trod_int Tryz.underlying3 f0;obtain⟨s1,q1,y1,_⟩:=DataW.trod_string Tryz.underlying9 f1;subst y0 y1;simp at q0 q1;subst q0 q1
    have h3:(elems.map (·.1))[i]?=some (DataW.agg [.lit (.int .i64 n0),.lit (.string s1.data.toList)]):=by
     rw[List.getElem?_map,List.getElem?_eq_getElem (by omega),hx'];rfl
    rw[←he,List.getElem?_map] at h3
    have h4:Pinned.cheatRows[i]?=some (ldl i,lcl i):=by
     unfold ldl lcl;rw[List.getD_eq_getElem?_getD,List.getElem?_eq_getElem (by rw[qnW];exact hi)];rfl
    rw[h4] at h3;simp only[Option.map_some,Option.some.injEq,DataW.agg.injEq,List.cons.injEq,DataW.lit.injEq,Lit.int.injEq,Lit.string.injEq,true_and,and_true] at h3;obtain⟨rfl,h5⟩:=h3
    have h6:s1=lcs i:=by
     unfold lcs;rw[h5]
    subst h6;have k0:=g3 0 (by omega);have k1:=g3 1 (by omega);constructor
    ·simpa [Addr.add] using k0
    ·have e5:(a.add (i*2)).add 1=a.add (i*2+1):=by by_cases h:i*2=0<;>simp[Addr.add,h,Nat.add_assoc]
     rw[←e5];exact k1
  have hs0:=(key 0 (by omega)).1;obtain⟨b,off,spot⟩:=a;have hspot:spot=none:=by simpa [Addr.add] using World.cell?_spot hs0
  subst hspot;refine⟨b,off,c,?_,qfc hs0,fun k hk=>?_⟩
  ·rw[World.var?_cell hg hvar 0,←Array.getElem?_toList,hcs];rfl
  ·have:=key k hk;rw[show(⟨b,off,none⟩:Addr).add (k*2)=⟨b,off+k*2,none⟩ by simp[Addr.add],show(⟨b,off,none⟩:Addr).add (k*2+1)=⟨b,off+k*2+1,none⟩ by simp[Addr.add,Nat.add_assoc]] at this;exact this
theorem qrL {W:World} (h:laidMetH Tryz.prog LaidL W) (_:W.ShapedOpen Tryz.prog):qrs W:=by
 rw[MakeChecks.laidMetH_plain _ _ _ (by kernel_rfl)] at h;have h8:laidMet Tryz.prog (("internal/strconv.uint64pow10",Lib.tabData .u64 Lib.pow10Tab)::_) W:=h.tail.tail.tail.tail.tail.tail.tail.tail;have hp:Lib.TabIs Tryz.prog W "internal/strconv.uint64pow10" .u64 Lib.pow10Tab:=Lib.tabIs_of_head gP tP Tryz.underlying282 Tryz.underlying24 qgI qmB h8;obtain⟨a0,s0,hr,-,-,-⟩:=laid_sentinel h8.tail.tail gR tR Tryz.underlying82 qop Tryz.underlying349 Tryz.underlying351 rfl rfl Tryz.underlying9 qhP qks;have c4:=World.var?_cell gR hr 0;have h15:=qr7 (Lib.laidMet.reads h8.tail.tail.tail.tail (.tail _ (.head _)));obtain⟨i0,i1,i2⟩:=qpp (Lib.laidMet.reads h.tail.tail.tail (.head _));have ho:=qrN (Lib.laidMet.reads h.tail.tail.tail.tail (.head _));have hf:=qru (Lib.laidMet.reads h.tail.tail.tail.tail.tail.tail (.head _));have hbig:=qsi (Lib.laidMet.reads h8.tail.tail.tail.tail (.head _)) 16 (by kernel_rfl);have hpt:=qsL (Lib.laidMet.reads h.tail.tail.tail.tail.tail (.head _));have hlc:=qsG (Lib.laidMet.reads h8.tail.tail.tail.tail (.head _));exact⟨⟨⟨h15,ho,i0,i1,i2,hf,hbig,hpt,hlc⟩,⟨_,c4,.inr ⟨_,_,rfl⟩⟩⟩,hp⟩
theorem door_met (os:Os) (args:Array Value):laidMetH Tryz.prog LaidL ((World.laidAll Tryz.prog os LaidL).forCall (fun _ _=>0) ⟨#[],args,[]⟩).memory:=by
 rw[MakeChecks.laidMetH_plain _ _ _ (by kernel_rfl)];exact laidMet_laidAll _ (by kernel_rfl) (by kernel_rfl)
theorem eglb_of {W:World} (h:laidMetH Tryz.prog LaidL W) (hs:W.ShapedOpen Tryz.prog):X.EGlb W:=by
 refine⟨⟨qrL h hs,Go.Proofs.cell_of_shapedOpen_int (P:=Tryz.prog) (g:=0) (t:=3) (zero:=#[.int .i64 0]) hs (of_decide_eq_true (by kernel_rfl)) (by kernel_rfl) rfl (by kernel_rfl) (by kernel_rfl) Tryz.underlying3⟩,?_⟩;rw[MakeChecks.laidMetH_plain _ _ _ (by kernel_rfl)] at h;have h8:laidMet Tryz.prog (("internal/strconv.uint64pow10",Lib.tabData .u64 Lib.pow10Tab)::_) W:=h.tail.tail.tail.tail.tail.tail.tail.tail;obtain⟨a0,s0,hr,-,-,-⟩:=laid_sentinel h8.tail.tail.tail gS tS Tryz.underlying82 qop Tryz.underlying349 Tryz.underlying351 rfl rfl Tryz.underlying9 qhP qks;exact⟨_,World.var?_cell gS hr 0,.inr ⟨_,_,rfl⟩⟩
end Go.Proofs.YtdeimnnpcfncpaaGreatDoor
end
