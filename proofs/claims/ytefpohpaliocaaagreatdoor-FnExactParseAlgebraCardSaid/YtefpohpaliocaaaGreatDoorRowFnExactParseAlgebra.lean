/- The row: the law answers true whatever the input, and the input reads as it did. No condition. -/
import Derived.Test.YtefpohpaliocaaaGreatDoorRows
import Derived.Test.YtefpohpaliocaaaGreatDoorProg
import Derived.WalkKit
import Derived.KernelRfl
import Derived.JoinedOf
import Derived.Maps.AppendAt
import Derived.Still
import Derived.ProofKit
import Derived.OpenShut
import Derived.StillTail
import Derived.Deep.Upon
import Derived.WalkSpells
import Derived.Maps.Range
import Derived.Laws.Concat
import Derived.Laws.IdiomStrings
import Derived.Laws.Strings
import Derived.Lib.ItoaNum
import Derived.Lib.Join
import Derived.Lib.LaidTab
import Derived.Laws.Strings2
import Derived.Laws.Strings3
import Derived.Laws.Slices
import Derived.DeepKeys4
import Derived.Lib.SplitLaws
import Derived.Lib.AtoiTie
import Derived.Lib.ParseIntBTie
import Derived.Shelf.Strings.Builder1
import Derived.Shelf.Strings.Builder2
import Derived.Shelf.Strings.OnBuilder
import Derived.Shelf.Strings.BuilderF
import Derived.Shelf.Strings.BuilderK
import Derived.Shelf.Utf8.RuneCount
import Derived.Shelf.Strconv.Atoi
import Derived.Shelf.Strconv.Itoa0
import Derived.Shelf.Strconv.Itoa1
import Derived.Shelf.LaysM
import Derived.Shelf.Strconv.Itoa2
import Derived.Shelf.Strconv.Itoa3
import Derived.Shelf.Strconv.Itoa4
import Derived.Shelf.Strconv.AtoiErrFast
import Derived.Shelf.Strconv.ParseIntEmpty
import Derived.Shelf.Strconv.AtoiFail
import Derived.Shelf.Strconv.Clone
import Derived.Shelf.Strconv.SyntaxError
import Derived.Shelf.LaysC
import Derived.Shelf.Strconv.ToError
import Derived.Shelf.Strconv.Lower
import Derived.Shelf.Strconv.ParseUint10
import Derived.Shelf.Strconv.ParseUint10Empty
import Derived.Shelf.Strconv.ParseUint10Any
import Derived.Shelf.Strconv.ParseInt10
import Derived.Shelf.Strconv.AtoiLong
import Derived.Shelf.Strconv.AtoiInnerAll
import Derived.Shelf.Strconv.RangeError
import Derived.Shelf.Strconv.ToErrorRange
import Derived.Shelf.Strconv.AtoiAll
import Derived.Shelf.Strconv.ErrVarAll
import Derived.Shelf.Strconv.ParseUintEmpty
import Derived.Shelf.Strconv.ParseUint10b64
import Derived.Shelf.Strconv.ParseUint10b32
import Derived.Shelf.Strconv.ParseUint10b16
import Derived.Shelf.Strconv.ParseUint10b8
import Derived.Shelf.Strconv.ParseUint10At
import Derived.Shelf.Strconv.ParseInt10At64
import Derived.Shelf.Strconv.ParseInt10At32
import Derived.Shelf.Strconv.ParseInt10At16
import Derived.Shelf.Strconv.ParseInt10At8
import Derived.Shelf.Strconv.ParseInt10All
import Derived.Shelf.Strconv.ParseIntPublic10
import Derived.Shelf.Strconv.ErrVarParseInt
import Derived.Shelf.Strings.Search1
import Derived.Shelf.Strings.Search2
import Derived.Shelf.Strings.Search3
import Derived.Shelf.Strings.Cut
import Derived.Shelf.Strings.Count
import Derived.Shelf.Strings.Shaped
import Derived.Shelf.Strings.Split
import Derived.Shelf.Strings.SplitShaped
import Derived.Shelf.Unicode.Decode
import Derived.Shelf.Strings.RuneCount
import Derived.Shelf.Strings.Explode
import Derived.Shelf.Unicode.DecodeSlow
import Derived.Shelf.Unicode.DecodeAny
import Derived.Lib.AtoiErrMem
import Derived.Lib.SmallJoins
import Derived.WalkSmall
import Derived.WideLaws
import Derived.Lib.AppendIntMem
import Derived.Test.YtefpohpaliocaaaGreatDoorCards
import Derived.Test.YtefpohpaliocaaaGreatDoorTie
import Derived.LaidMore
import Derived.Stop.Joined
import Derived.Stop.LaidErr
import Derived.SevenTiedAt
import Derived.MakeChecks
import Derived.Shelf.Vars
import Derived.Lay
import Derived.ChangeOld
import Derived.Below
import Derived.SizedLaws
import Derived.Test.YtefpohpaliocaaaGreatDoorPPale
set_option linter.unusedVariables false
set_option linter.unusedSimpArgs false
set_option maxRecDepth 10000
set_option maxHeartbeats 8000000
open Nat (reduceEqDiff reduceSub reduceAdd)
namespace Go.Proofs.YtefpohpaliocaaaGreatDoor.fnExactParseAlgebra
open Go.ChangeShapes Go.WideShapes Go.ChangeAt Go.RowKit
open Go.Proofs.YtefpohpaliocaaaGreatDoor.G
theorem u9:Tryz.prog.underlying 9=some (TypeDesc.string):=by kernel_rfl
theorem u3:Tryz.prog.underlying 3=some (TypeDesc.int .i64):=by kernel_rfl
theorem u150:Tryz.prog.underlying 150=some (TypeDesc.pointer 152):=by kernel_rfl
theorem u152:Tryz.prog.underlying 152=some (TypeDesc.struct #[{name:="s",type:=9,offset:=0,embedded:=false,tag:="",pkgPath:="errors",byteOffset:=0}]):=by kernel_rfl
theorem u166:Tryz.prog.underlying 166=some (TypeDesc.array 20 108):=by kernel_rfl
theorem u108:Tryz.prog.underlying 108=some (TypeDesc.int .u64):=by kernel_rfl
theorem u4:Tryz.prog.underlying 4=some (TypeDesc.bool):=by kernel_rfl
theorem own:ownKnob Tryz.prog.godebug=none:=by kernel_rfl
theorem door_met (os:Os) (args:Array Value):laidMetH Tryz.prog Rows.fnExactParseAlgebraRow.laid ((World.laidAll Tryz.prog os Rows.fnExactParseAlgebraRow.laid).forCall (fun _ _=>0) ⟨#[],args, []⟩).memory:=by
 rw [MakeChecks.laidMetH_plain _ _ _ (by kernel_rfl)];exact laidMet_laidAll _ (by kernel_rfl) (by kernel_rfl)
theorem laidMet_head {P:Program} {x:String × DataW Unit} {r:List (String × DataW Unit)} {w:World} (h:laidMet P (x::r) w):laidMet P [x] w:=by
 obtain ⟨ps,hv,hnd,hrows⟩:=h;obtain ⟨n,d⟩:=x;obtain ⟨g,t,cs,fuel,p,q,e1,e2,e3,e4,hq,rfl⟩:=hv;exact ⟨_,⟨g,t,cs,fuel,p, [],e1,e2,e3,e4,rfl,rfl⟩,hnd.sublist (by rw [List.append_nil];exact List.sublist_append_left _ _),fun b off hm=>hrows b off (List.mem_append_left _ (by rw [List.append_nil] at hm;exact hm))⟩
theorem u59:Tryz.prog.underlying 59=some (.interface #[("Error",127)]):=by kernel_rfl
theorem star : "*" ++ "errors.errorString" = "*errors.errorString":=by decide
theorem rowS (u:TypeId) (h:Tryz.prog.typeName? 3 u=some "*errors.errorString"):u=150:=
 typeName_ptr_named (nm:="errors.errorString") (by rw [star];kernel_rfl) (by kernel_rfl) (by decide) u (by rw [star];exact h)
theorem gN1:Tryz.prog.globalNamed "strconv.ErrSyntax" = some 1:=by kernel_rfl
theorem gT1:(Tryz.prog.globals[1]?).map (·.type)=some 59:=by kernel_rfl
theorem gN2:Tryz.prog.globalNamed "strconv.ErrRange" = some 2:=by kernel_rfl
theorem gT2:(Tryz.prog.globals[2]?).map (·.type)=some 59:=by kernel_rfl
theorem lb_ok {W:World} (hL:laidMetH Tryz.prog Rows.fnExactParseAlgebraRow.laid W) (hS:W.ShapedOpen Tryz.prog):LbOk (hp W):=by
 rw [MakeChecks.laidMetH_plain _ _ _ (by kernel_rfl)] at hL;refine ⟨?_,?_,?_⟩
 ·exact cell_of_shapedOpen_int (g:=0) (t:=3) (zero:=#[.int .i64 0]) hS (of_decide_eq_true (by kernel_rfl)) (by kernel_rfl) rfl (by kernel_rfl) (by kernel_rfl) u3
 ·obtain ⟨a0,s0,hv0, -⟩:=laid_sentinel (n:="strconv.ErrSyntax") (laidMet_head hL.tail.tail.tail.tail.tail) gN1 gT1 u59 rowS u150 u152 rfl rfl u9 (by kernel_rfl) (by kernel_rfl);exact ⟨_,_,(by have h0:=World.var?_cell gN1 hv0 0;simpa using h0:W.cell? ⟨1,0,none⟩=some _)⟩
 ·obtain ⟨a0,s0,hv0, -⟩:=laid_sentinel (n:="strconv.ErrRange") (laidMet_head hL.tail.tail.tail.tail) gN2 gT2 u59 rowS u150 u152 rfl rfl u9 (by kernel_rfl) (by kernel_rfl);exact ⟨_,_,(by have h0:=World.var?_cell gN2 hv0 0;simpa using h0:W.cell? ⟨2,0,none⟩=some _)⟩
theorem wrapS {H:Type} {enc:TypeId × Value→H} {a:Assume} {C:Checked} {os:Os} {f:FuncId} {fn:Func} {s:ChangeSpec} {conds:List PathCond} {apart fresh handsOn again:Bool} {X:World→Array Value→Prop} (hX : ∀(w w':World) (args:Array Value),w.heap=w'.heap→X w args→X w' args) (own:ownKnob C.prog.godebug=none) (started:os.Started) (noInit:C.prog.inits.idxOf? f=none) (hfn:C.prog.funcs[f]? = some fn) (witness : ∃(w:World) (tape:Tape) (i:Input),w.os=os∧(w.forCall tape i).Shaped C.prog∧i.vars=[]∧Input.okWide C.prog (w.forCall tape i) .any w.heap.size f i∧((s.pre enc C.prog fn conds apart (w.forCall tape i).memory i.args∧X (w.forCall tape i).memory i.args)∧sizedMet enc C.prog fn (OpenSpec.ofChange s) apart (w.forCall tape i).memory i.args)∧a.holds C.prog (lone (Frame.enter C.prog f i.args .normal) [] (w.forCall tape i))) (contract : ∀(W:World) (base:Nat) (args:Array Value) (ds gs:List (DataW H)) (before:List MemPlace),(∀(j:Nat) t v,fn.params[j]? = some t→args[j]? = some v→Value.okWide C.prog W .any base t v)→DataW.Whole enc C.prog fn.params.toList s.vars apart W args.toList ds gs before→conds.all (PathCond.test C.prog ⟨fn.params.toList,ds,s.plain.varTypes C.prog,gs⟩)=true→(DataW.weightsEach C.prog (fn.params.toList++s.plain.varTypes C.prog) (ds++gs)).all (· ≤reachBytes)=true→X W args→W.ShapedOpen C.prog→Calls C.prog f args W fun e W'=>∃v,e = .returned v∧s.post enc C.prog fn apart fresh handsOn again W args v W'):ReturnsInHanded a C os f .any (fun w args=>(s.pre enc C.prog fn conds apart w args∧X w args)∧sizedMet enc C.prog fn (OpenSpec.ofChange s) apart w args) (s.post enc C.prog fn apart fresh handsOn again):=by
 refine returnsInHanded_of_calls own started noInit witness ?_;intro w tape i _ hsh _ hok hpre _;obtain ⟨_,_,_,fn',hfn',_,_,_,_,hval⟩:=hok;have e:fn'=fn:=Option.some.inj (hfn'.symm.trans hfn);subst e;obtain ⟨⟨⟨ds,gs,before,hw,hc⟩,hx⟩,hz⟩:=hpre;have hw':=DataW.Whole.of_heap (w':=w.forCall tape i) (by rfl) hw;refine (contract (w.forCall tape i) w.heap.size i.args ds gs before hval hw' hc (hz.weights hw) (hX _ _ _ (by rfl) hx) hsh).mono fun e W' ⟨v,he,hp⟩=>?_;subst he;exact ChangeSpec.post_blind hp
theorem tab_ok {W:World} (hL:laidMetH Tryz.prog Rows.fnExactParseAlgebraRow.laid W):TabOk Tryz.prog nmT (hp W):=by
 rw [MakeChecks.laidMetH_plain _ _ _ (by kernel_rfl)] at hL;have h1:laidMet Tryz.prog [(nmT,Lib.tabData .u64 Lib.pow10Tab)] W:=(laidMet_head hL.tail.tail:_);obtain ⟨g,hg⟩ : ∃g,Tryz.prog.globalNamed nmT=some g:=⟨5,by kernel_rfl⟩;have h2:Lib.TabIs Tryz.prog W nmT .u64 Lib.pow10Tab:=Lib.tabIs_of_head (P:=Tryz.prog) (t:=166) (e:=108) (n:=20) hg (by rw [← Option.some.inj ((show Tryz.prog.globalNamed nmT=some 5 by kernel_rfl).symm.trans hg)];kernel_rfl) u166 u108 (by kernel_rfl) (by kernel_rfl) h1;intro w hw;unfold Lib.TabIs World.var? at h2 ⊢;rw [hg] at h2 ⊢;simp only [Option.bind_some] at h2 ⊢
 cases hb:W.heap[g]? with
 | none=>rw [hb] at h2;simp at h2
 | some o=>
  have h3:w.heap[g]? = some o:=hw g o hb;rw [hb] at h2;rw [h3];exact h2
theorem lifted (os:Os) (started:os.Started) (H:Type) (enc:TypeId × Value→H):ReturnsInHanded {} Tryz.checked os 3 .any (fun w args=>(Rows.fnExactParseAlgebraSpec.pre enc Tryz.prog Tryz.f3 Rows.fnExactParseAlgebraRow.domain false w args∧laidMetH Tryz.prog Rows.fnExactParseAlgebraRow.laid w)∧sizedMet enc Tryz.prog Tryz.f3 (OpenSpec.ofChange Rows.fnExactParseAlgebraSpec) false w args) (Rows.fnExactParseAlgebraSpec.post enc Tryz.prog Tryz.f3 false true false false):=by
 refine wrapS (C:=Tryz.checked) (X:=fun w _=>laidMetH Tryz.prog Rows.fnExactParseAlgebraRow.laid w) (fun _ _ _ hh h=>h.of_heap hh) own started (by kernel_rfl) Tryz.func3
  (ChangeSpec.witness_shaped (enc:=enc) (C:=Tryz.checked) (os:=os) (X:=fun w _=>laidMetH Tryz.prog Rows.fnExactParseAlgebraRow.laid w) false (World.laidAll Tryz.prog os Rows.fnExactParseAlgebraRow.laid) #[.string ⟨#[]⟩] 12 (World.laidAll_os _ _ _) (World.shaped_of_ZipB (by kernel_rfl) (by kernel_rfl)) (by kernel_rfl) (by kernel_rfl) (by kernel_rfl) (door_met os _)) ?_
 intro W base args ds gs before hval0 hW hcnd hsz0 hL hS;have hT9:=tab_ok hL;have hB9:=lb_ok hL hS;have hval : ∀(j:Nat) t v,Tryz.f3.params[j]? = some t→args[j]? = some v→Value.okWide Tryz.prog W .any base t v:=hval0;have hW':=hW;obtain ⟨p,q,hA0,hV,rfl,hfz,hnd⟩:=hW;have hA:DataW.TrodAll enc Tryz.prog W 0 (fun _=>true) true Tryz.f3.params.toList args.toList ds p:=hA0;rw [Tryz.params3] at hA hval;obtain ⟨v0,JX,d0,ds0,p0,q0,hargs,rfl,rfl,h0,r0⟩:=trodAll_cons hA;obtain ⟨rfl,rfl,rfl⟩:=trodAll_nil r0
 obtain rfl:args = #[v0]:=by cases args;simp_all
 obtain ⟨rfl,rfl⟩:=trodVars_none hV
 obtain ⟨t0,rfl⟩ : ∃t0,v0=sV t0:=by obtain ⟨b9,rfl⟩:=okWide_string u9 (hval 0 9 v0 rfl rfl);exact ⟨_,vS_data b9⟩
 clear hA0 hval0 hsz0;refine ((lawParseAlgebra_c hB9 hT9 (Hp.start (H:=hp W) fun _ _ h=>h)).mono fun e W' ⟨he,bel⟩=>?_);subst he;exact ⟨_,rfl,law_post (f:=Tryz.f3) (by kernel_rfl) (by kernel_rfl) rfl rfl u4 rfl hW' bel⟩
theorem joined:joinedFacts Tryz.prog 3 Tryz.f3 Rows.fnExactParseAlgebraSpec Rows.fnExactParseAlgebraRow=true:=by
 unfold joinedFacts;simp only [Bool.and_eq_true]
 repeat' apply And.intro
 all_goals first
  | with_reducible exact Facts.fEnter
  | with_reducible exact Facts.fLaid
  | with_reducible exact Facts.fMaps
  | with_reducible exact Facts.fHeard
  | (rw [Facts.fMake];rfl)
  | (rw [Facts.fLift];rfl)
  | (rw [Facts.fKeys];rfl)
  | (rw [Facts.fStops];rfl)
  | (rw [Facts.fStopK];rfl)
  | as_aux_lemma=>kernel_rfl
theorem over:Rows.fnExactParseAlgebraRow.holds Tryz.pinned (OpenSpec.ofChange Rows.fnExactParseAlgebraSpec):=
 OpenClaim.holds_of_wide 3 Tryz.f3 rfl rfl rfl rfl rfl rfl rfl ⟨rfl,rfl,rfl,rfl,rfl⟩ rfl rfl rfl rfl rfl (by as_aux_lemma=>kernel_rfl) Tryz.func3 joined
  (of_decide_eq_true (by as_aux_lemma=>kernel_rfl)) (by unfold Func.isWrapper;first | (rw [if_pos (by decide +kernel)];kernel_rfl) | (rw [if_neg (by decide +kernel)];exact ⟨rfl,rfl⟩))
  (fun os started H enc _=>lifted os started H enc)
theorem proved:Rows.FnExactParseAlgebraCardSaid:=
 Claim7.holds_tied_plain_at .later [] [.data,.data,.data,.data,.sentinel,.sentinel,.pinned] true (true, "d0430ddb69e1d39e3ebce2e325132a5f638aee80eb7c9dbaddc06a01c09cfa93") true
  over (fun _ h=>by cases h) (by kernel_rfl) (fun _ h=>by cases h) fnExactParseAlgebra_row_tie rfl ⟨rfl,rfl⟩ (by kernel_rfl) rfl
  (fun f fn hf hfn=>by
   obtain rfl:f=3:=Option.some.inj ((show Tryz.prog.funcNamed "loop.example/g01219/laws.FnExactParseAlgebra" = some 3 by kernel_rfl).symm.trans hf) |>.symm
   obtain rfl:fn=Tryz.f3:=(Option.some.inj (Tryz.func3.symm.trans hfn)).symm
   exact ⟨by kernel_rfl,fun j t ht=>by
    rw [Tryz.params3] at ht
    have hm:t∈ [9]:=by simpa using Array.mem_of_getElem? ht
    have hall:([9].all fun u=>!Tryz.prog.wantsStandIn u)=true:=by kernel_rfl
    exact (show Tryz.prog.wantsStandIn t=false by simpa using List.all_eq_true.1 hall t hm)⟩)
  (by kernel_rfl)
#print axioms proved
end Go.Proofs.YtefpohpaliocaaaGreatDoor.fnExactParseAlgebra
namespace Go.Proofs.YtefpohpaliocaaaGreatDoor
theorem fnExactParseAlgebra_holds:Rows.FnExactParseAlgebraCardSaid:=fnExactParseAlgebra.proved
end Go.Proofs.YtefpohpaliocaaaGreatDoor
