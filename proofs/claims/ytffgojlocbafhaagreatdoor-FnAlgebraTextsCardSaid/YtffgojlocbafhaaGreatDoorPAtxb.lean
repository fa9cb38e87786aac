/- A part of the walk of one law: what the functions compute. No condition. -/
import Derived.Test.YtffgojlocbafhaaGreatDoorRows
import Derived.Test.YtffgojlocbafhaaGreatDoorProg
import Derived.WalkKit
import Derived.KernelRfl
import Derived.JoinedOf
import Derived.Maps.AppendAt
import Derived.Still
import Derived.ProofKit
import Derived.OpenShut
import Derived.StillTail
import Derived.Deep.Upon
import Derived.WalkSpells
import Derived.Maps.Range
import Derived.Laws.Entries
import Derived.Laws.StructEq
import Derived.DeepKeys4
import Derived.Laws.Concat
import Derived.Laws.IdiomStrings
import Derived.Laws.Strings
import Derived.Lib.ItoaNum
import Derived.Lib.Join
import Derived.Lib.LaidTab
import Derived.Lib.SplitLaws
import Derived.Lib.AtoiTie
import Derived.Lib.ParseIntBTie
import Derived.Shelf.Strings.Builder1
import Derived.Shelf.Strings.Builder2
import Derived.Shelf.Strings.OnBuilder
import Derived.Shelf.Strings.BuilderF
import Derived.Shelf.Strings.BuilderK
import Derived.Shelf.Strconv.Atoi
import Derived.Shelf.Strconv.Itoa0
import Derived.Shelf.Strconv.Itoa1
import Derived.Shelf.LaysM
import Derived.Shelf.Strconv.Itoa2
import Derived.Shelf.Strconv.Itoa3
import Derived.Shelf.Strconv.Itoa4
import Derived.Shelf.Strconv.AtoiErrFast
import Derived.Shelf.Strconv.ParseIntEmpty
import Derived.Shelf.Strconv.AtoiFail
import Derived.Shelf.Strconv.Clone
import Derived.Shelf.Strconv.SyntaxError
import Derived.Shelf.LaysC
import Derived.Shelf.Strconv.ToError
import Derived.Shelf.Strconv.Lower
import Derived.Shelf.Strconv.ParseUint10
import Derived.Shelf.Strconv.ParseUint10Empty
import Derived.Shelf.Strconv.ParseUint10Any
import Derived.Shelf.Strconv.ParseInt10
import Derived.Shelf.Strconv.AtoiLong
import Derived.Shelf.Strconv.AtoiInnerAll
import Derived.Shelf.Strconv.RangeError
import Derived.Shelf.Strconv.ToErrorRange
import Derived.Shelf.Strconv.AtoiAll
import Derived.Shelf.Strconv.ParseUintEmpty
import Derived.Shelf.Strconv.ParseUint10b64
import Derived.Shelf.Strconv.ParseUint10b32
import Derived.Shelf.Strconv.ParseUint10b16
import Derived.Shelf.Strconv.ParseUint10b8
import Derived.Shelf.Strconv.ParseUint10At
import Derived.Shelf.Strconv.ParseInt10At64
import Derived.Shelf.Strconv.ParseInt10At32
import Derived.Shelf.Strconv.ParseInt10At16
import Derived.Shelf.Strconv.ParseInt10At8
import Derived.Shelf.Strconv.ParseInt10All
import Derived.Shelf.Strconv.ParseIntPublic10
import Derived.Shelf.Strings.Search1
import Derived.Shelf.Strings.Search2
import Derived.Shelf.Strings.Search3
import Derived.Shelf.Strings.Cut
import Derived.Shelf.Strings.Count
import Derived.Shelf.Strings.Shaped
import Derived.Shelf.Strings.Split
import Derived.Shelf.Unicode.DecodeSlow
import Derived.Laws.Strings2
import Derived.Laws.Strings3
import Derived.Laws.Slices
import Derived.Lib.AtoiErrMem
import Derived.Lib.SmallJoins
import Derived.WalkSmall
import Derived.WideLaws
import Derived.Lib.AppendIntMem
import Derived.Test.YtffgojlocbafhaaGreatDoorCards
import Derived.Test.YtffgojlocbafhaaGreatDoorTie
import Derived.LaidMore
import Derived.Stop.Joined
import Derived.Stop.LaidErr
import Derived.SevenTiedAt
import Derived.MakeChecks
import Derived.Shelf.Vars
import Derived.Lay
import Derived.ChangeOld
import Derived.Below
import Derived.SizedLaws
import Derived.Test.YtffgojlocbafhaaGreatDoorPAtxa
set_option linter.unusedVariables false
set_option linter.unusedSimpArgs false
set_option maxRecDepth 10000
set_option maxHeartbeats 8000000
open Nat (reduceEqDiff reduceSub reduceAdd)
namespace Go.Proofs.YtffgojlocbafhaaGreatDoor.G
open Go Go.RowKit
structure KeyT (P:Program) (K:TypeId) {α:Type} (ek:α→Value) (ok:α→Prop):Prop where
 inj : ∀x y,ek x=ek y→x=y
 check : ∀(w:World) (em:Bool) x,ok x→(Instr.checkKey em 10000 K (ek x)).run P w = .ok () w
 find : ∀(w:World) x,ok x→∀es:List MapEntry,(∀e∈es,∃y,ok y∧e.key=ek y)→
  ((Instr.findKey K (ek x) es).run P w = .ok none w∧∀e∈es,e.key≠ek x)∨∃j e,(Instr.findKey K (ek x) es).run P w = .ok (some (j,e.val)) w∧es[j]? = some e∧e.key=ek x
 stays : ∀(w:World) x,ok x→(Instr.keyThatStays (ek x) (ek x)).run P w = .ok (ek x) w
theorem KeyT.of {P:Program} {K:TypeId} {α:Type} {ek:α→Value} {ok:α→Prop} (Kd:Go.Maps.Keyed P K) (inj : ∀x y,ek x=ek y→x=y) (h : ∀x,ok x→∃l,keyOf P K (ek x)=some l):KeyT P K ek ok where
 inj:=inj
 check w em x hx:=by obtain ⟨l,hl⟩:=h x hx;exact Kd.check w em hl
 find w x hx es he:=by
  obtain ⟨l,hl⟩:=h x hx
  exact Kd.find w hl es fun e hm=>by
   obtain ⟨y,hy,e1⟩:=he e hm
   obtain ⟨l',hl'⟩:=h y hy
   exact ⟨l',by rw [e1];exact hl'⟩
 stays w x hx:=by obtain ⟨l,hl⟩:=h x hx;exact Kd.stays w hl
def kv (e:MapEntry):Value × Value:=(e.key,e.val)
section
variable {α β : Type} {ek : α → Value} {ev : β → Value} {ok : α → Prop}
def enc2 (ek:α→Value) (ev:β→Value) (x:α × β):Value × Value:=(ek x.1,ev x.2)
structure EntOk (ek:α→Value) (ev:β→Value) (ok:α→Prop) (es:Array MapEntry) (clock:Nat) (xs:List (α × β)):Prop where
 st:MapKept.Stamped es clock
 pm:(es.toList.map kv).Perm (xs.map (enc2 ek ev))
 ok : ∀x∈xs,ok x.1
theorem EntOk.perm {es:Array MapEntry} {clock:Nat} {xs ys:List (α × β)} (h:EntOk ek ev ok es clock xs) (hp:xs.Perm ys):EntOk ek ev ok es clock ys:=
 ⟨h.st,h.pm.trans (hp.map _),fun x hx=>h.ok x (hp.mem_iff.2 hx)⟩
theorem EntOk.mem {es:Array MapEntry} {clock:Nat} {xs:List (α × β)} (h:EntOk ek ev ok es clock xs) {e:MapEntry} (he:e∈es.toList) : ∃x∈xs,e.key=ek x.1∧e.val=ev x.2:=by
 have h1:kv e∈xs.map (enc2 ek ev):=h.pm.mem_iff.1 (List.mem_map.2 ⟨e,he,rfl⟩);obtain ⟨x,hx,e1⟩:=List.mem_map.1 h1;simp only [enc2,kv,Prod.mk.injEq] at e1;exact ⟨x,hx,e1.1.symm,e1.2.symm⟩
theorem EntOk.mem' {es:Array MapEntry} {clock:Nat} {xs:List (α × β)} (h:EntOk ek ev ok es clock xs) {x:α × β} (hx:x∈xs) : ∃e∈es.toList,e.key=ek x.1∧e.val=ev x.2:=by
 have h1:enc2 ek ev x∈es.toList.map kv:=h.pm.mem_iff.2 (List.mem_map.2 ⟨x,hx,rfl⟩);obtain ⟨e,he,e1⟩:=List.mem_map.1 h1;simp only [enc2,kv,Prod.mk.injEq] at e1;exact ⟨e,he,e1.1,e1.2⟩
theorem EntOk.keys {es:Array MapEntry} {clock:Nat} {xs:List (α × β)} (h:EntOk ek ev ok es clock xs) : ∀e∈es.toList,∃y,ok y∧e.key=ek y:=fun e he=>by
 obtain ⟨x,hx,e1,_⟩:=h.mem he
 exact ⟨x.1,h.ok x hx,e1⟩
theorem EntOk.size {es:Array MapEntry} {clock:Nat} {xs:List (α × β)} (h:EntOk ek ev ok es clock xs):es.size=xs.length:=by
 have:=h.pm.length_eq
 simpa using this
theorem EntOk.nodup {es:Array MapEntry} {clock:Nat} {xs:List (α × β)} (h:EntOk ek ev ok es clock xs):(xs.map (·.1)).Nodup:=by
 have h1:=((MapKept.stamped_iff es clock).1 h.st).2.2;have h2:(es.toList.map kv).Pairwise (fun x y=>x.1≠y.1):=List.pairwise_map.2 h1;have h3:=(h.pm.pairwise_iff (fun {x y} (hxy:x.1≠y.1)=>hxy.symm)).1 h2;rw [List.pairwise_map] at h3;rw [List.Nodup,List.pairwise_map];exact h3.imp fun h e=>h (congrArg ek e)
theorem EntOk.empty {clock:Nat}:EntOk ek ev ok #[] clock []:=⟨MapKept.stamped_empty clock,by simp,fun x hx=>by simp at hx⟩
theorem MapH.key_mem {P:Program} {K:TypeId} (hK:KeyT P K ek ok) {es:Array MapEntry} {clock:Nat} {xs:List (α × β)} (h:EntOk ek ev ok es clock xs) (w:World) {k:α} (hk:ok k):((Instr.findKey K (ek k) es.toList).run P w = .ok none w∧(∀e∈es.toList,e.key≠ek k)∧∀x∈xs,x.1≠k)∨∃j e b,(Instr.findKey K (ek k) es.toList).run P w = .ok (some (j,e.val)) w∧es.toList[j]? = some e∧e.key=ek k∧e.val=ev b∧(k,b)∈xs:=by
 rcases hK.find w k hk es.toList h.keys with ⟨h1,h2⟩ | ⟨j,e,h1,h2,h3⟩
 ·refine .inl ⟨h1,h2,fun x hx e1=>?_⟩;obtain ⟨e,he,e2,_⟩:=h.mem' hx;exact h2 e he (by rw [e2,e1])
 ·obtain ⟨x,hx,e1,e2⟩:=h.mem (List.mem_of_getElem? h2);have:x.1=k:=hK.inj _ _ (by rw [← e1,h3]);refine .inr ⟨j,e,x.2,h1,h2,h3,e2,?_⟩;rw [← this];exact hx
def look [DecidableEq α] (xs:List (α × β)) (k:α):Option β:=(xs.find? fun x=>decide (x.1=k)).map (·.2)
theorem look_none [DecidableEq α] {xs:List (α × β)} {k:α} (h : ∀x∈xs,x.1≠k):look xs k=none:=by
 unfold look;rw [List.find?_eq_none.2 fun x hx=>by simpa using h x hx]
 rfl
theorem look_some [DecidableEq α] : ∀{xs:List (α × β)} {k:α} {b:β},(xs.map (·.1)).Nodup→(k,b)∈xs→look xs k=some b
 | [],_,_,_,h=>by simp at h
 | x::xs,k,b,hn,h=>by
  simp only [List.map_cons,List.nodup_cons] at hn
  unfold look
  rw [List.find?_cons]
  by_cases e:x.1=k
  ·rw [decide_eq_true e]
   rcases List.mem_cons.1 h with h | h
   ·rw [← h];rfl
   ·exact absurd (List.mem_map.2 ⟨_,h,e.symm⟩) hn.1
  ·rw [decide_eq_false e]
   rcases List.mem_cons.1 h with h | h
   ·exact absurd (by rw [← h]) e
   ·exact look_some hn.2 h
def MapH (ek:α→Value) (ev:β→Value) (ok:α→Prop) (H:HP) (v:Value) (xs:List (α × β)):Prop:=∃b es clock,v = .map (some b)∧H b=some (.map es clock)∧EntOk ek ev ok es clock xs
theorem MapH.le {H H':HP} {v:Value} {xs:List (α × β)} (h:MapH ek ev ok H v xs) (hle:Le H H'):MapH ek ev ok H' v xs:=by
 obtain ⟨b,es,clock,h1,h2,h3⟩:=h;exact ⟨b,es,clock,h1,hle _ _ h2,h3⟩
def omap (ek:α→Value) (ev:β→Value) (ok:α→Prop) (b:Nat) (xs:List (α × β)):SA where
 fp:=fun x=>x=b
 holds:=fun h=>∃es clock,h b=some (.map es clock)∧EntOk ek ev ok es clock xs
 loc:=fun h h' hb ⟨es,clock,h1,h2⟩=>⟨es,clock,by rw [← hb b rfl];exact h1,h2⟩
theorem omap_H {h:HP} {b:Nat} {xs:List (α × β)} (hh:(omap ek ev ok b xs).holds h):MapH ek ev ok h (.map (some b)) xs:=by
 obtain ⟨es,clock,h1,h2⟩:=hh;exact ⟨b,es,clock,rfl,h1,h2⟩
def putM [DecidableEq α] (xs:List (α × β)) (k:α) (v:β):List (α × β):=(k,v)::xs.filter fun x=>decide (x.1≠k)
def delM [DecidableEq α] (xs:List (α × β)) (k:α):List (α × β):=xs.filter fun x=>decide (x.1≠k)
def itr (ek:α→Value) (ev:β→Value) (b:Nat) (es:Array MapEntry) (clock:Nat) (r:Nat) (last:Option (α × β)) (ls:List (α × β)):SA where
 fp:=fun x=>x=r
 holds:=fun h=>∃seen,h r=some (.mapIter (some b) clock seen clock)∧((leftOf es seen).toList.map kv).Perm (ls.map (enc2 ek ev))∧∀x,last=some x→∃e∈es.toList,kv e=enc2 ek ev x∧∃s0:Array Nat,seen=s0.push e.born
 loc:=fun h h' hb ⟨seen,h1,h2⟩=>⟨seen,by rw [← hb r rfl];exact h1,h2⟩
theorem self_erase {γ:Type} : ∀{l:List γ} {j:Nat} {x:γ},l[j]? = some x→l.Perm (x::l.eraseIdx j)
 | [],_,_,h=>by simp at h
 | a::l,0,x,h=>by simp at h;subst h;simp
 | a::l,j+1,x,h=>by
  simp only [List.eraseIdx_cons_succ]
  exact ((self_erase (by simpa using h)).cons a).trans (List.Perm.swap x a _)
theorem delM_perm [DecidableEq α] : ∀{xs:List (α × β)} {k:α} {b:β},(xs.map (·.1)).Nodup→(k,b)∈xs→xs.Perm ((k,b)::delM xs k)
 | [],_,_,_,h=>by simp at h
 | x::xs,k,b,hn,h=>by
  simp only [List.map_cons,List.nodup_cons] at hn
  unfold delM
  rw [List.filter_cons]
  by_cases e:x.1=k
  ·have hx:x=(k,b):=by
    rcases List.mem_cons.1 h with h | h
    ·exact h.symm
    ·exact absurd (List.mem_map.2 ⟨_,h,e.symm⟩) hn.1
   rw [if_neg (by simpa using e),hx]
   refine List.Perm.cons _ ?_
   rw [List.filter_eq_self.2]
   intro y hy
   have:y.1≠k:=fun e2=>hn.1 (by rw [e,← e2];exact List.mem_map.2 ⟨y,hy,rfl⟩)
   simpa using this
  ·rw [if_pos (by simpa using e)]
   rcases List.mem_cons.1 h with h | h
   ·exact absurd (by rw [← h]) e
   ·exact ((delM_perm hn.2 h).cons x).trans (List.Perm.swap _ _ _)
theorem delM_none [DecidableEq α] {xs:List (α × β)} {k:α} (h : ∀x∈xs,x.1≠k):delM xs k=xs:=by
 unfold delM;rw [List.filter_eq_self];intro x hx
 simpa using h x hx
theorem delM_mem [DecidableEq α] {xs:List (α × β)} {k:α} {x:α × β} (h:x∈delM xs k):x∈xs∧x.1≠k:=by
 unfold delM at h;obtain ⟨h1,h2⟩:=List.mem_filter.1 h;exact ⟨h1,by simpa using h2⟩
theorem EntOk.find_perm [DecidableEq α] {es:Array MapEntry} {clock:Nat} {xs:List (α × β)} (h:EntOk ek ev ok es clock xs) {j:Nat} {e:MapEntry} {k:α} {b:β} (h2:es.toList[j]? = some e) (h3:e.key=ek k) (h4:e.val=ev b) (h5:(k,b)∈xs):((es.toList.eraseIdx j).map kv).Perm ((delM xs k).map (enc2 ek ev)):=by
 have p1:(es.toList.map kv).Perm (kv e::(es.toList.eraseIdx j).map kv):=(self_erase h2).map kv;have p2:(xs.map (enc2 ek ev)).Perm (enc2 ek ev (k,b)::(delM xs k).map (enc2 ek ev)):=(delM_perm h.nodup h5).map (enc2 ek ev)
 have e1:kv e=enc2 ek ev (k,b):=by unfold kv enc2;rw [h3,h4]
 have p3:=(p1.symm.trans h.pm).trans p2;rw [e1] at p3;exact (List.perm_cons _).1 p3
end
section
variable {P : Program} {ops : Array Oper} {Q : Exit → Act → World → Prop} {n : Nat} {B : World} {H0 H : HP} {rest : List Oper} {us : List (Nat × Value)} {L L' : List SA} {t : TypeId} {p : String} {af : Array Edge} {d : Nat} {x y z : Operand}
variable {α β : Type} {ek : α → Value} {ev : β → Value} {ok : α → Prop}
def ZeroV (P:Program) (e:TypeId) (v:Value):Prop:=∀w,(zeroValue e).run P w = .ok v w
theorem look_run [DecidableEq α] {ty K e:TypeId} {w:World} {b:Nat} {es:Array MapEntry} {clock:Nat} {xs:List (α × β)} {k:α} {v0:Value} (hu:P.underlying ty=some (.map K e)) (hK:KeyT P K ek ok) (hz:ZeroV P e v0) (hb:w.heap[b]? = some (.map es clock)) (he:EntOk ek ev ok es clock xs) (hk:ok k) (c:Bool):(Instr.lookup ty (.map (some b)) (ek k) c).run P w = .ok (if c then .tuple #[(look xs k).elim v0 ev,.bool (look xs k).isSome] else (look xs k).elim v0 ev) w:=by
 rcases MapH.key_mem hK he w hk with ⟨h1,h2,h3⟩ | ⟨j,e0,v,h1,h2,h3,h4,h5⟩
 ·rw [look_none h3]
  simp [Instr.lookup,run_underlying hu,MapKept.run_getObj_map hb,hK.check w _ k hk,h1,hz w,Result.andThen]
 ·rw [look_some he.nodup h5]
  simp [Instr.lookup,run_underlying hu,MapKept.run_getObj_map hb,hK.check w _ k hk,h1,Result.andThen,h4]
theorem PR.lookH [DecidableEq α] {ty K e:TypeId} {xs:List (α × β)} {k:α} {v0 mv:Value} (hu:P.underlying ty=some (.map K e)) (hK:KeyT P K ek ok) (hz:ZeroV P e v0) (hx:opv us x=some mv) (hm:MapH ek ev ok H mv xs) (hy:opv us y=some (ek k)) (hk:ok k) :
 PR P n B H0 us H L (.lookup ty x y false) t ((look xs k).elim v0 ev):=
 fun _ _ _ _ a w hF hH=>by
  obtain ⟨b,es,clock,rfl,h2,h3⟩:=hm
  have:=look_run (w:=w) hu hK hz (hH.agree b _ h2) h3 hk false
  simp [execOp,hF.ev hx,hF.ev hy,this]
theorem PR.lookO [DecidableEq α] {ty K e:TypeId} {b:Nat} {xs:List (α × β)} {k:α} {v0:Value} (hu:P.underlying ty=some (.map K e)) (hK:KeyT P K ek ok) (hz:ZeroV P e v0) (hx:opv us x=some (.map (some b))) (hat:At L (omap ek ev ok b xs) (omap ek ev ok b xs) L) (hy:opv us y=some (ek k)) (hk:ok k) :
 PR P n B H0 us H L (.lookup ty x y false) t ((look xs k).elim v0 ev):=
 fun c' w' d' b' a w hF hH=>PR.lookH (H:=hp w) (L:=[]) (B:=w) (H0:=hp w) hu hK hz hx (omap_H (hH.objs _ hat.mem).1) hy hk c' w' d' b' a w hF (Hp.start fun _ _ h=>h)
theorem PR.lenH {ty K e:TypeId} {xs:List (α × β)} {mv:Value} {r:Int} (hu:P.underlying ty=some (.map K e)) (hx:opv us x=some mv) (hm:MapH ek ev ok H mv xs) (hr:(xs.length:Int)=r) :
 PR P n B H0 us H L (.call {callee:=.builtin .len,args:=#[x],argTypes:=#[ty]}) t (.int .i64 r):=
 fun _ _ _ _ a w hF hH=>by
  subst hr
  obtain ⟨b,es,clock,rfl,h2,h3⟩:=hm
  have hb:w.heap[b]? = some (.map es clock):=hH.agree b _ h2
  simp [execOp,resolve,invoke,builtin,Builtin.len_,hF.ev hx,run_underlying hu,MapKept.run_getObj_map hb,goInt,h3.size,Result.andThen]
theorem PR.lenO {ty K e:TypeId} {b:Nat} {xs:List (α × β)} {r:Int} (hu:P.underlying ty=some (.map K e)) (hx:opv us x=some (.map (some b))) (hat:At L (omap ek ev ok b xs) (omap ek ev ok b xs) L) (hr:(xs.length:Int)=r) :
 PR P n B H0 us H L (.call {callee:=.builtin .len,args:=#[x],argTypes:=#[ty]}) t (.int .i64 r):=
 fun c' w' d' b' a w hF hH=>PR.lenH (H:=hp w) (L:=[]) (B:=w) (H0:=hp w) hu hx (omap_H (hH.objs _ hat.mem).1) hr c' w' d' b' a w hF (Hp.start fun _ _ h=>h)
theorem J.makeMap (ek:α→Value) (ev:β→Value) (ok:α→Prop) {ty:TypeId} (hd:Nat.blt d n=true) (hk : ∀b,J P ops Q n B H0 rest ((d,.map (some b))::us) H (omap ek ev ok b []::L)):J P ops Q n B H0 (⟨some d,.makeMap ty none,t,p,af,none⟩::rest) us H L:=by
 refine J.val hd fun a w hF hH=>⟨.map (some w.heap.size),w.alloc (.map #[] 0),?_,fun a' hF'=>hk _ a' _ hF' ?_⟩
 ·simp [execOp,run_makeMap]
 ·exact hH.new (chg_alloc w _) ⟨#[],0,heap_alloc_new w _,EntOk.empty⟩ (fun b hb=>by rw [show b=w.heap.size from hb];simp)
theorem setBlock_hp {w:World} {b:Nat} {o o':Obj} (hb:hp w b=some o):hp (ChangeMaps.setBlock w b o') b=some o' ∧(∀b',b' ≠b→hp (ChangeMaps.setBlock w b o') b'=hp w b')∧(ChangeMaps.setBlock w b o').heap.size=w.heap.size:=by
 have:=MapKept.heap_set (o':=o') (show w.heap[b]? = some o from hb);exact ⟨this.1,this.2,by simp [ChangeMaps.setBlock]⟩
theorem Hp.setB {b:Nat} {o o':Obj} {A A':SA} {w:World} (hH:Hp B H0 H L w) (hat:At L A A' L') (hA : ∀x,A.fp x↔x=b) (hA' : ∀x,A'.fp x↔x=b) (hb:hp w b=some o) (hh : ∀h:HP,h b=some o' →A'.holds h):Hp B H0 H L' (ChangeMaps.setBlock w b o'):=by
 obtain ⟨h1,h2,h3⟩:=setBlock_hp (o':=o') hb;refine hH.upd hat ⟨rfl,rfl,rfl,by rw [h3];exact Nat.le_refl _,fun x _ hx=>h2 x fun e=>hx ((hA x).2 e)⟩ (hh _ h1) fun x hx=>?_;have e:=(hA' x).1 hx;subst e;exact ⟨.inl ((hA x).2 rfl),by rw [h3];exact hp_lt hb⟩
theorem update_run [DecidableEq α] {ty K e:TypeId} {w:World} {b:Nat} {es:Array MapEntry} {clock:Nat} {xs:List (α × β)} {k:α} {v:β} (hu:P.underlying ty=some (.map K e)) (hK:KeyT P K ek ok) (hb:w.heap[b]? = some (.map es clock)) (he:EntOk ek ev ok es clock xs) (hk:ok k) : ∃es' clock',(Instr.mapUpdate ty (.map (some b)) (ek k) (ev v)).run P w = .ok () (ChangeMaps.setBlock w b (.map es' clock'))∧EntOk ek ev ok es' clock' (putM xs k v):=by
 have hok : ∀x∈putM xs k v,ok x.1:=fun x hx=>by
  rcases List.mem_cons.1 hx with rfl | hx
  ·exact hk
  ·exact he.ok x (delM_mem hx).1
 rcases MapH.key_mem hK he w hk with ⟨h1,h2,h3⟩ | ⟨j,e0,v',h1,h2,h3,h4,h5⟩
 ·refine ⟨es.push ⟨ek k,ev v,clock⟩,clock+1,?_,MapKept.stamped_push he.st h2,?_,hok⟩
  ·simp [Instr.mapUpdate,run_underlying hu,MapKept.run_getObj_map hb,hK.check w false k hk,h1,MapKept.run_setObj_map _ hb,Result.andThen,ChangeMaps.setBlock]
  ·have e1:delM xs k=xs:=delM_none h3;unfold putM;unfold delM at e1;rw [e1,Array.toList_push,List.map_append];exact (List.perm_append_singleton _ _).trans (he.pm.cons _)
 ·have hj:es[j]? = some e0:=by simpa using h2
  have hjl:j<es.toList.length:=(List.getElem?_eq_some_iff.1 h2).1
  have hkeyf : ∀e',es[j]? = some e' →({e' with key:=ek k,val:=ev v}:MapEntry).key=e'.key:=fun e' he'=>by rw [hj] at he';cases he';exact h3.symm
  refine ⟨es.modify j (fun e'=>{e' with key:=ek k,val:=ev v}),clock,?_,MapKept.stamped_modify he.st _ _ (fun _ _=>rfl) (fun e' _ he'=>hkeyf e' he'),?_,hok⟩
  ·simp [Instr.mapUpdate,run_underlying hu,MapKept.run_getObj_map hb,hK.check w false k hk,h1,hj,h3,hK.stays w k hk,MapKept.run_setObj_map _ hb,Result.andThen,ChangeMaps.setBlock]
  ·rw [Array.toList_modify,ChangeMaps.modify_eq_set _ _ _ _ h2];have p1:=(ChangeMaps.set_perm es.toList j hjl {e0 with key:=ek k,val:=ev v}).map kv;refine p1.trans ?_
   show (kv {e0 with key:=ek k,val:=ev v}::(es.toList.eraseIdx j).map kv).Perm (enc2 ek ev (k,v)::(delM xs k).map (enc2 ek ev))
   exact (he.find_perm h2 h3 h4 h5).cons _
theorem J.mapUpdate [DecidableEq α] {ty K e:TypeId} {b:Nat} {xs:List (α × β)} {k:α} {v:β} (hu:P.underlying ty=some (.map K e)) (hK:KeyT P K ek ok) (hx:opv us x=some (.map (some b))) (hy:opv us y=some (ek k)) (hz:opv us z=some (ev v)) (hk:ok k) (hat:At L (omap ek ev ok b xs) (omap ek ev ok b (putM xs k v)) L') (kk:J P ops Q n B H0 rest us H L'):J P ops Q n B H0 (⟨none,.mapUpdate ty x y z,t,p,af,none⟩::rest) us H L:=by
 refine J.unit fun a w hF hH=>?_;obtain ⟨es,clock,hb,he⟩:=(hH.objs _ hat.mem).1;obtain ⟨es',clock',hr,he'⟩:=update_run (v:=v) hu hK hb he hk;refine ⟨_,?_,kk a _ hF (hH.setB hat (fun _=>Iff.rfl) (fun _=>Iff.rfl) hb fun h hh=>⟨es',clock',hh,he'⟩)⟩
 simp [execOp,hF.ev hx,hF.ev hy,hF.ev hz,hr,Result.andThen]
theorem J.insert [DecidableEq α] {ty K e:TypeId} {b:Nat} {xs:List (α × β)} {k:α} {v:β} (hu:P.underlying ty=some (.map K e)) (hK:KeyT P K ek ok) (hx:opv us x=some (.map (some b))) (hy:opv us y=some (ek k)) (hz:opv us z=some (ev v)) (hk:ok k) (hat:At L (omap ek ev ok b xs) (omap ek ev ok b (putM xs k v)) L') (kk:J P ops Q n B H0 rest us H L'):J P ops Q n B H0 (⟨none,.insert ty x y z,t,p,af,none⟩::rest) us H L:=by
 refine J.unit fun a w hF hH=>?_;obtain ⟨es,clock,hb,he⟩:=(hH.objs _ hat.mem).1;obtain ⟨es',clock',hr,he'⟩:=update_run (v:=v) hu hK hb he hk;refine ⟨_,?_,kk a _ hF (hH.setB hat (fun _=>Iff.rfl) (fun _=>Iff.rfl) hb fun h hh=>⟨es',clock',hh,he'⟩)⟩
 simp [execOp,hF.ev hx,hF.ev hy,hF.ev hz,hr,Result.andThen]
theorem J.delete [DecidableEq α] {ty tk K e:TypeId} {b:Nat} {xs:List (α × β)} {k:α} (hu:P.underlying ty=some (.map K e)) (hK:KeyT P K ek ok) (hx:opv us x=some (.map (some b))) (hy:opv us y=some (ek k)) (hk:ok k) (hat:At L (omap ek ev ok b xs) (omap ek ev ok b (delM xs k)) L') (kk:J P ops Q n B H0 rest us H L'):J P ops Q n B H0 (⟨none,.call {callee:=.builtin .delete,args:=#[x,y],argTypes:=#[ty,tk]},t,p,af,none⟩::rest) us H L:=by
 refine J.unitV fun a w hF hH=>?_;obtain ⟨es,clock,hb,he⟩:=(hH.objs _ hat.mem).1;have hok : ∀x∈delM xs k,ok x.1:=fun x hx=>he.ok x (delM_mem hx).1;have hb':w.heap[b]? = some (.map es clock):=hb
 rcases MapH.key_mem hK he w hk with ⟨h1,h2,h3⟩ | ⟨j,e0,v',h1,h2,h3,h4,h5⟩
 ·refine ⟨.tuple #[],_,?_,kk a _ hF (hH.setB hat (fun _=>Iff.rfl) (fun _=>Iff.rfl) hb fun h hh=>⟨es,clock,hh,?_⟩)⟩
  ·simp [execOp,resolve,invoke,builtin,hF.ev hx,hF.ev hy,Builtin.delete_,run_underlying hu,MapKept.run_getObj_map hb',hK.check w _ k hk,h1,MapKept.run_setObj_map _ hb',Result.andThen,ChangeMaps.setBlock]
  ·rw [delM_none h3];exact he
 ·have hjs:j<es.size:=by simpa using (List.getElem?_eq_some_iff.1 h2).1
  have hsub:(es.eraseIdxIfInBounds j).toList=es.toList.eraseIdx j:=by
   unfold Array.eraseIdxIfInBounds;rw [dif_pos hjs]
   simp
  refine ⟨.tuple #[],_,?_,kk a _ hF (hH.setB hat (fun _=>Iff.rfl) (fun _=>Iff.rfl) hb fun h hh=>⟨es.eraseIdxIfInBounds j,clock,hh,MapKept.stamped_erase he.st j,?_,hok⟩)⟩
  ·simp [execOp,resolve,invoke,builtin,hF.ev hx,hF.ev hy,Builtin.delete_,run_underlying hu,MapKept.run_getObj_map hb',hK.check w _ k hk,h1,MapKept.run_setObj_map _ hb',Result.andThen,ChangeMaps.setBlock]
  ·rw [hsub];exact he.find_perm h2 h3 h4 h5
theorem J.range {ty K e:TypeId} {b:Nat} {es:Array MapEntry} {clock:Nat} {xs:List (α × β)} (hu:P.underlying ty=some (.map K e)) (hx:opv us x=some (.map (some b))) (hb:H b=some (.map es clock)) (he:EntOk ek ev ok es clock xs) (hd:Nat.blt d n=true) (kk : ∀r,J P ops Q n B H0 rest ((d,.pointer (some ⟨r,0,none⟩))::us) H (itr ek ev b es clock r none xs::L)):J P ops Q n B H0 (⟨some d,.range ty x,t,p,af,none⟩::rest) us H L:=by
 refine J.val hd fun a w hF hH=>⟨_,_,?_,fun a' hF'=>kk w.heap.size a' _ hF' (hH.new (chg_alloc w (.mapIter (some b) clock #[] clock)) ⟨#[],heap_alloc_new w _,?_,fun x hx=>by cases hx⟩ (fun x hx=>by rw [show x=w.heap.size from hx];simp))⟩
 ·simp [execOp,hF.ev hx,run_range_map w ty K e b es clock hu (hH.agree b _ hb)]
 ·have:leftOf es #[]=es:=by unfold leftOf;simp
  rw [this];exact he.pm
theorem left_push {es:Array MapEntry} {seen:Array Nat} (hn:(es.toList.map (·.born)).Nodup) {e:MapEntry} (he:e∈(leftOf es seen).toList):(leftOf es seen).toList.Perm (e::(leftOf es (seen.push e.born)).toList):=by
 have h1:(leftOf es (seen.push e.born)).toList=(leftOf es seen).toList.filter fun x=>!(x.born == e.born):=by
  unfold leftOf;rw [Array.toList_filter,Array.toList_filter,List.filter_filter]
  congr 1
  funext x
  rw [contains_push]
  cases seen.contains x.born <;> cases (x.born == e.born) <;> rfl
 rw [h1]
 have hsub:((leftOf es seen).toList.map (·.born)).Nodup:=by
  unfold leftOf;rw [Array.toList_filter];exact hn.sublist (List.filter_sublist.map _)
 generalize (leftOf es seen).toList=l at he hsub
 induction l with
 | nil=>simp at he
 | cons a l ih=>
  simp only [List.map_cons,List.nodup_cons] at hsub;rw [List.filter_cons]
  by_cases e1:a.born=e.born
  ·have hae:a=e:=by
    rcases List.mem_cons.1 he with h | h
    ·exact h.symm
    ·exact absurd (List.mem_map.2 ⟨e,h,e1.symm⟩) hsub.1
   rw [if_neg (by simpa using e1),hae];refine List.Perm.cons _ ?_;rw [List.filter_eq_self.2];intro y hy;have:y.born≠e.born:=fun e2=>hsub.1 (by rw [e1,← e2];exact List.mem_map.2 ⟨y,hy,rfl⟩)
   simpa using this
  ·rw [if_pos (by simpa using e1)]
   rcases List.mem_cons.1 he with h | h
   ·exact absurd (by rw [h]) e1
   ·exact ((ih h hsub.2).cons a).trans (List.Perm.swap _ _ _)
theorem J.next {b r:Nat} {es:Array MapEntry} {clock:Nat} {xs ls:List (α × β)} {last:Option (α × β)} (hx:opv us x=some (.pointer (some ⟨r,0,none⟩))) (hb:H b=some (.map es clock)) (he:EntOk ek ev ok es clock xs) {L':Option (α × β)→List (α × β)→List SA} (hat : ∀la ls',At L (itr ek ev b es clock r last ls) (itr ek ev b es clock r la ls') (L' la ls')) (hd:Nat.blt d n=true) (h0:ls=[]→J P ops Q n B H0 rest ((d,.tuple #[.bool false])::us) H L) (h1 : ∀(u:α × β) (l1 l2:List (α × β)),ls=l1++u::l2→J P ops Q n B H0 rest ((d,.tuple #[.bool true,ek u.1,ev u.2])::us) H (L' (some u) (l1++l2))):J P ops Q n B H0 (⟨some d,.next x false,t,p,af,none⟩::rest) us H L:=by
 refine J.val hd fun a w hF hH=>?_;obtain ⟨seen,hr,hpm,hlast⟩:=(hH.objs _ (hat none []).mem).1;have hst:=(MapKept.stamped_iff es clock).1 he.st;have hbw:w.heap[b]? = some (.map es clock):=hH.agree b _ hb
 rcases run_next_at (P:=P) w t r b clock clock seen es clock hr hbw hst.1 (Nat.le_refl _) with ⟨hs0,hrun⟩ | ⟨e,hem,w1,hw1,hrun⟩
 ·refine ⟨_,w,by simp [execOp,hF.ev hx,hrun,Result.andThen],fun a' hF'=>h0 ?_ a' w hF' hH⟩
  have:(leftOf es seen).toList=[]:=by rw [Array.toList_eq_nil_iff];exact Array.eq_empty_of_size_eq_zero hs0
  rw [this] at hpm;have:=hpm.length_eq
  simp at this
  exact List.eq_nil_of_length_eq_zero this.symm
 ·have h2:kv e∈ls.map (enc2 ek ev):=hpm.mem_iff.1 (List.mem_map.2 ⟨e,hem,rfl⟩);obtain ⟨u,hu,hue⟩:=List.mem_map.1 h2;obtain ⟨l1,l2,hl⟩:=List.append_of_mem hu
  have hke:e.key=ek u.1:=by have:=congrArg Prod.fst hue;exact this.symm
  have hve:e.val=ev u.2:=by have:=congrArg Prod.snd hue;exact this.symm
  have hp1:(leftOf es (seen.push e.born)).toList.map kv |>.Perm ((l1++l2).map (enc2 ek ev)):=by
   have p1:=(left_push hst.2.1 hem).map kv
   have p2:(ls.map (enc2 ek ev)).Perm (enc2 ek ev u::(l1++l2).map (enc2 ek ev)):=by
    rw [hl];exact (List.perm_middle).map _
   have p3:=(p1.symm.trans hpm).trans p2;rw [hue] at p3;exact (List.perm_cons _).1 p3
  have hH1:Hp B H0 H L w1:=by
   rcases hw1 with rfl | rfl
   ·exact hH
   ·exact hH.chg0 (w':=w.drew) ⟨rfl,rfl,rfl,Nat.le_refl _,fun _ _ _=>rfl⟩
  have hr1:hp w1 r=some (.mapIter (some b) clock seen clock):=by rcases hw1 with rfl | rfl <;> exact hr
  refine ⟨.tuple #[.bool true,e.key,e.val],_,by simp [execOp,hF.ev hx,hrun,Result.andThen];rfl,fun a' hF'=>?_⟩;rw [hke,hve] at hF'
  exact h1 u l1 l2 hl a' _ hF' (hH1.setB (hat (some u) (l1++l2)) (fun _=>Iff.rfl) (fun _=>Iff.rfl) hr1 fun h hh=>⟨_,hh,hp1,fun x hx=>by
   cases hx
   exact ⟨e,(mem_left hem).1,hue.symm,seen,rfl⟩⟩)
theorem PR.entry {b r:Nat} {es:Array MapEntry} {clock:Nat} {xs ls:List (α × β)} {u:α × β} (hx:opv us x=some (.pointer (some ⟨r,0,none⟩))) (hb:H b=some (.map es clock)) (he:EntOk ek ev ok es clock xs)
 (hat:At L (itr ek ev b es clock r (some u) ls) (itr ek ev b es clock r (some u) ls) L):PR P n B H0 us H L (.entry x) t (.tuple #[ek u.1,ev u.2]):=
 fun _ _ _ _ a w hF hH=>by
  obtain ⟨seen,hr,_,hlast⟩:=(hH.objs _ hat.mem).1
  obtain ⟨e,hem,hke,s0,rfl⟩:=hlast u rfl
  have hst:=(MapKept.stamped_iff es clock).1 he.st
  have hbw:w.heap[b]? = some (.map es clock):=hH.agree b _ hb
  have h1:e.key=ek u.1:=congrArg Prod.fst hke
  have h2:e.val=ev u.2:=congrArg Prod.snd hke
  have:=run_entry_at (P:=P) w r b clock s0 es clock e hr hbw hem hst.2.1
  rw [h1,h2] at this
  simp [execOp,hF.ev hx,this]
end
def setV (vs:Vs) (k:Nat) (x:Option Addr × Nat):Vs:=fun j=>if j=k then x else vs j
section
variable {P : Program} {ops : Array Oper} {Q : Exit → Act → World → Prop} {n : Nat} {B : World} {H0 H : HP} {rest : List Oper} {us : List (Nat × Value)} {L L1 : List SA} {t : TypeId} {p : String} {af : Array Edge} {d : Nat} {x y : Operand} {R : Act → World → Prop}
theorem EI {ty e:TypeId} {u v z:Value} (hu:P.underlying ty=some (.slice e)) (hz:Zero P e [z]) (hs:Size P e 1) (hx:opv us x=some u) (hv:u.cells=[v].toArray):MK P n us H (.buildSlice ty 1 #[(0,x)]) t (fun q c=>.slice q 1 c) (fun q c=>own e 1 q 1 c [v]):=
 MK.lit1 (z:=[z]) hu hz hs rfl rfl hx hv rfl
theorem EK {ty e:TypeId} {q qt:Option Addr} {m c ct bytes:Nat} {cells:List Value} {v z:Value} (hu:P.underlying ty=some (.slice e)) (hz:Zero P e [z]) (hs:Size P e 1) (hb:Bytes P e bytes) (hx:opv us x=some (.slice q m c)) (hy:opv us y=some (.slice qt 1 ct)) (h1:v.oneCell'=true) (hB:Nat.ble bytes 64=true) (hm:m≤1099511627776) (hr:Rm L (own e 1 qt 1 ct [v]) L1) (hat:At L1 (own e 1 q m c cells) (own e 1 q m c cells) L1) {L':Option Addr→Nat→List SA} (hat' : ∀q' c',At L1 (own e 1 q m c cells) (own e 1 q' (m+1) c' (cells++[v])) (L' q' c')) (hd:Nat.blt d n=true) (hk : ∀q' c',J P ops Q n B H0 rest ((d,.slice q' (m+1) c')::us) H (own e 1 qt 1 ct [v]::L' q' c')):J P ops Q n B H0 (⟨some d,.call {callee:=.builtin .append,args:=#[x,y],argTypes:=#[ty,ty]},t,p,af,none⟩::rest) us H L:=by
 have hB':=Nat.le_of_ble_eq_true hB;refine J.appendO (z:=[z]) hu hz hs hb rfl hx hy (by simpa using h1) ?_ (by simp only [maxLen];omega) hr hat hat' hd hk
 calc (m+1) * bytes≤(m+1) * 64:=Nat.mul_le_mul_left _ hB'
  _≤140737488355328:=by omega
theorem slicesC_snoc : ∀(vs:Vs) (gs:List (List Term)) (f:List Term),slicesC vs (gs++[f])=slicesC vs gs++[.slice (vs gs.length).1 f.length (vs gs.length).2]
 | vs, [],f=>rfl
 | vs,g::gs,f=>by
  simp only [JxA,slicesC]
  rw [slicesC_snoc vs.tl gs f]
  rfl
theorem slicesC_cong : ∀{gs:List (List Term)} {vs vs':Vs},(∀j,j<gs.length→vs j=vs' j)→slicesC vs gs=slicesC vs' gs
 | [],_,_,_=>rfl
 | g::gs,vs,vs',h=>by
  have h0:=h 0 (by simp)
  have ih:=slicesC_cong (gs:=gs) (vs:=vs.tl) (vs':=vs'.tl) fun j hj=>h (j+1) (by simpa using hj)
  simp only [slicesC,h0,ih]
theorem ownTs_cong {T:TypeId} : ∀{gs:List (List Term)} {vs vs':Vs},(∀j,j<gs.length→vs j=vs' j)→ownTs T vs gs=ownTs T vs' gs
 | [],_,_,_=>rfl
 | g::gs,vs,vs',h=>by
  have h0:=h 0 (by simp)
  have ih:=ownTs_cong (T:=T) (gs:=gs) (vs:=vs.tl) (vs':=vs'.tl) fun j hj=>h (j+1) (by simpa using hj)
  simp only [ownTs,h0,ih]
theorem slicesC_set {vs:Vs} {fs:List (List Term)} {f:List Term} {q:Option Addr} {c k:Nat} (hk:fs.length=k):slicesC (setV vs k (q,c)) (fs++[f])=slicesC vs fs++[.slice q f.length c]:=by
 subst hk;rw [slicesC_snoc,slicesC_cong (vs':=vs) fun j hj=>by unfold setV;rw [if_neg (by omega)]]
 simp [setV]
theorem EJ.fsSnoc {T:TypeId} {q:Option Addr} {c k m:Nat} {fs:List (List Term)} {f:List Term} {vs:Vs} (hk:fs.length=k) (hm:f.length=m) (h:EJ R n B H0 us H (ownTs T (setV vs k (q,c)) (fs++[f])::L)):EJ R n B H0 us H (own T 9 q m c (tsC f)::ownTs T vs fs::L):=fun a w hF hH=>by
 subst hk
 subst hm
 refine h a w hF (Hp.fsOut ?_)
 rw [show setV vs fs.length (q,c) fs.length=(q,c) by simp [setV],ownTs_cong (vs':=vs) fun j hj=>by unfold setV;rw [if_neg (by omega)]]
 exact hH
theorem J.ts0 (T:TypeId) (k:J P ops Q n B H0 rest us H (ownTs T nilVs []::L)):J P ops Q n B H0 rest us H L:=fun a w hF hH=>k a w hF hH.emp
end
def totI:List (List Int)→Nat
 | []=>0
 | f::fs=>f.length+totI fs
theorem totI_app : ∀(a b:List (List Int)),totI (a++b)=totI a+totI b
 | [],b=>by simp [totI]
 | f::a,b=>by simp [totI,totI_app a b];omega
theorem totI_succ {fs:List (List Int)} {i:Nat} (hi:i<fs.length):totI (fs.take (i+1))=totI (fs.take i)+(rw_ fs i).length:=by
 rw [List.take_succ_eq_append_getElem hi,totI_app]
 simp [totI,rw_,List.getD_eq_getElem?_getD,List.getElem?_eq_getElem hi]
theorem totI_take_le {fs:List (List Int)} : ∀{i:Nat},i<fs.length→totI (fs.take i)+(rw_ fs i).length≤totI fs:=by
 induction fs with
 | nil=>intro i h;simp at h
 | cons f fs ih=>
  intro i h
  cases i with
  | zero=>simp [totI,rw_]
  | succ i=>
   have:=ih (i:=i) (by simpa using h);simp only [List.take_succ_cons,totI,rw_,List.getD_cons_succ] at this ⊢
   omega
section
variable {P : Program} {ops : Array Oper} {Q : Exit → Act → World → Prop} {n : Nat} {B : World} {H0 H : HP} {rest : List Oper} {us : List (Nat × Value)} {L L' : List SA} {t : TypeId} {p : String} {af : Array Edge} {d : Nat} {x y : Operand}
theorem arr_law {ty e:TypeId} {N:Nat} (hu:P.underlying ty=some (.array N e)):P.elem ty=e∧P.arrayLen ty=N:=by
 simp [Program.elem,Program.arrayLen,hu]
theorem PR.sliceArr {ty e:TypeId} {g k N:Nat} (hu:P.underlying ty=some (.array N e)) (hs:Size P e 1) (hx:opv us x=some (.pointer (some ⟨g,k,none⟩))) :
 PR P n B H0 us H L (.slice ty x none none none) t (.slice (some ⟨g,k,none⟩) N N):=
 fun _ _ _ _ a w hF _=>by
  obtain ⟨e1,e2⟩:=arr_law hu
  have h1:=run_sliceAt_array_all (P:=P) w ty ⟨g,k,none⟩ (by rw [e1,e2];exact hu)
  rw [e1,e2,hs.run] at h1
  simp [execOp,hF.ev hx,h1,slicedAt,Result.andThen,add_at]
theorem PR.sliceArrL {ty e:TypeId} {g k N i':Nat} {kk:IntKind} {i:Int} (hu:P.underlying ty=some (.array N e)) (hs:Size P e 1) (hx:opv us x=some (.pointer (some ⟨g,k,none⟩))) (hy:opv us y=some (.int kk i)) (hi:i=(i':Int)) (hl:i'<N) :
 PR P n B H0 us H L (.slice ty x (some y) none none) t (.slice (some ⟨g,k+i',none⟩) (N - i') (N - i')):=
 fun _ _ _ _ a w hF _=>by
  subst hi
  obtain ⟨e1,e2⟩:=arr_law hu
  have h1:=run_sliceAt_array_l (P:=P) w ty ⟨g,k,none⟩ (by rw [e1,e2];exact hu) kk (i':Int) (by omega) (by rw [e2];omega)
  rw [e1,e2,hs.run] at h1
  have hne : ¬N=i':=by omega
  simp [execOp,hF.ev hx,hF.ev hy,h1,slicedAt,Result.andThen,add_at,hne]
theorem PR.sliceHi {ty e:TypeId} {q:Option Addr} {m c sz:Nat} {k:IntKind} {i:Int} {i':Nat} (hu:P.underlying ty=some (.slice e)) (hs:Size P e sz) (hx:opv us x=some (.slice q m c)) (hy:opv us y=some (.int k i)) (hi:i=(i':Int)) (hl:i' ≤c) :
 PR P n B H0 us H L (.slice ty x none (some y) none) t (.slice q i' c):=
 fun _ _ _ _ a w hF _=>by
  subst hi
  have hu':P.underlying ty=some (.slice (P.elem ty)):=by rw [elem_slice hu];exact hu
  have h1:=run_slice_h (P:=P) (w:=w) ty q m c hu' k (i':Int) (by omega) (by omega)
  rw [elem_slice hu,hs.run] at h1
  have h2:=run_sliceAt_slice (P:=P) (w:=w) ty (.slice q m c) none (some (.int k (i':Int))) none hu'
  rw [h1] at h2
  cases q <;> simp [execOp,hF.ev hx,hF.ev hy,h2,sliced,Result.andThen,add_at,Addr.add]
theorem cells_at {g o:Nat} {cs:List Value} {e:TypeId} {fr:Nat × Nat} {w:World} (hg:w.heap[g]? = some (.cells cs.toArray e fr)) {j:Nat}:w.cell? ((⟨g,o,none⟩:Addr).add j)=cs[o+j]?:=by
 rw [add_at]
 simp [World.cell?,hg]
theorem J.copyB {td ts e et:TypeId} {g k m c g2 k2 m2 c2:Nat} {cs cs2 cs':List Value} {e2:TypeId} {fr:Nat × Nat} (hu:P.underlying td=some (.slice e)) (hs:Size P e 1) (hx:opv us x=some (.slice (some ⟨g,k,none⟩) m c)) (hy:opv us y=some (.slice (some ⟨g2,k2,none⟩) m2 c2)) (hm:m≤m2) (hl:k+m≤cs.length) (hl2:k2+m≤cs2.length) (h1 : ∀v∈cs2,v.oneCell'=true) (he:cs.take k++(cs2.drop k2).take m++cs.drop (k+m)=cs') (hat2:At L (obj g2 (.cells cs2.toArray e2 fr)) (obj g2 (.cells cs2.toArray e2 fr)) L) (hat:At L (obj g (.cells cs.toArray et (0,0))) (obj g (.cells cs'.toArray et (0,0))) L') (hd:Nat.blt d n=true) (hk:J P ops Q n B H0 rest ((d,.int .i64 (m:Int))::us) H L'):J P ops Q n B H0 (⟨some d,.call {callee:=.builtin .copy,args:=#[x,y],argTypes:=#[td,ts]},t,p,af,none⟩::rest) us H L:=by
 subst he
 have hn:((cs2.drop k2).take m).length=m:=by simp;omega
 refine J.val hd fun a w hF hH=>⟨.int .i64 (m:Int),_,?_,fun a' hF'=>hk a' _ hF' (hH.setRow hat)⟩;have hg:w.heap[g]? = some (.cells cs.toArray et (0,0)):=(hH.objs _ hat.mem).1;have hg2:w.heap[g2]? = some (.cells cs2.toArray e2 fr):=(hH.objs _ hat2.mem).1
 have hld:=run_loadCells_list (P:=P) w ⟨g2,k2,none⟩ ((cs2.drop k2).take m) (fun j v hj=>by
  rw [cells_at hg2];rw [List.getElem?_take] at hj
  split at hj
  ·rw [List.getElem?_drop] at hj;exact hj
  ·cases hj)
 have hst:=run_storeCells_at P g k et ((cs2.drop k2).take m) 0 cs.toArray w hg (by rw [hn];simp;omega) (fun v hv=>h1 v (List.mem_of_mem_drop (List.mem_of_mem_take hv)));rw [hn] at hld hst;simp only [Nat.add_zero,List.toList_toArray] at hst;have hmin:Nat.min m2 m=m:=Nat.min_eq_right hm;unfold Size at hs
 cases hq:P.info? e with
 | none=>simp [hq] at hs
 | some i=>
  have hi:i.size=1:=by simpa [hq] using hs
  simp [execOp,resolve,invoke,builtin,hF.ev hx,hF.ev hy,Builtin.copy_,run_underlying hu,Builtin.lenOf,Builtin.firstCells,sizeOf,typeInfo,hq,hi,hmin,hld,hst,goInt]
end
def shM (b:Nat) (m:List Int):List Int:=(List.range 8).map fun i=>if i<b then 0 else m.getD (i - b) 0
@[simp] theorem shM_len (b:Nat) (m:List Int):(shM b m).length=8:=by simp [shM]
theorem shM_get {b:Nat} {m:List Int} {j:Nat} (hj:j<8):(shM b m).getD j 0=if j<b then 0 else m.getD (j - b) 0:=by
 unfold shM;rw [List.getD_eq_getElem?_getD,List.getElem?_map,List.getElem?_range hj]
 rfl
theorem shM_mono {b:Nat} {m:List Int} (h:Mono m):Mono (shM b m):=⟨by simp,fun j=>by
 rcases Nat.lt_or_ge j 8 with hj | hj
 ·rw [shM_get hj]
  split
  ·omega
  ·exact h.bd _
 ·rw [List.getD_eq_getElem?_getD,List.getElem?_eq_none (by simp;omega)]
  simp⟩
theorem shM_zero {m:List Int} (h:m.length=8):shM 0 m=m:=by
 apply List.ext_getElem (by simp [h]);intro j h1 h2
 have h3:j<8:=by simpa using h1
 have:=shM_get (b:=0) (m:=m) h3;rw [if_neg (by omega),Nat.sub_zero,List.getD_eq_getElem?_getD,List.getD_eq_getElem?_getD,List.getElem?_eq_getElem h1,List.getElem?_eq_getElem h2] at this;exact this
def sh1 (b:Nat) (t:Term):Term:=⟨shM b t.mono,t.fac⟩
theorem sh1_wf {b:Nat} {t:Term} (h:t.wf):(sh1 b t).wf:=⟨shM_mono h.mono,h.fac⟩
theorem sh1_zero {t:Term} (h:t.wf):sh1 0 t=t:=by unfold sh1;rw [shM_zero h.mono.len]
def shF (b:Nat) (ts:List Term):List Term:=ts.map (sh1 b)
@[simp] theorem shF_len (b:Nat) (ts:List Term):(shF b ts).length=ts.length:=by simp [shF]
theorem shF_wf {b:Nat} {ts:List Term} (h:Wfs ts):Wfs (shF b ts):=fun t ht=>by
 obtain ⟨u,hu,rfl⟩:=List.mem_map.1 ht
 exact sh1_wf (h u hu)
theorem shF_zero {ts:List Term} (h:Wfs ts):shF 0 ts=ts:=by
 unfold shF
 conv=>rhs;rw [← List.map_id ts]
 exact List.map_congr_left fun t ht=>sh1_zero (h t ht)
def shK (b:Nat) (ts:List Term) (k:Nat):List Term:=(ts.take k).map (sh1 b)
theorem shK_len {b:Nat} {ts:List Term} {k:Nat} (hk:k≤ts.length):(shK b ts k).length=k:=by simp [shK];omega
theorem shK_succ {b:Nat} {ts:List Term} {k:Nat} (hk:k<ts.length):shK b ts (k+1)=shK b ts k++[sh1 b (tm ts k)]:=by
 unfold shK;rw [List.take_succ_eq_append_getElem hk,List.map_append]
 simp [tm,List.getD_eq_getElem?_getD,List.getElem?_eq_getElem hk]
theorem shK_end (b:Nat) (ts:List Term):shK b ts ts.length=shF b ts:=by simp [shK,shF]
def shP (b:Nat) (m:List Int) (i:Nat):List Int:=(List.range 8).map fun j=>if b≤j∧j<b+i then m.getD (j - b) 0 else 0
@[simp] theorem shP_len (b:Nat) (m:List Int) (i:Nat):(shP b m i).length=8:=by simp [shP]
theorem shP_mono {b:Nat} {m:List Int} {i:Nat} (h:Mono m):Mono (shP b m i):=⟨by simp,fun j=>by
 unfold shP
 rw [List.getD_eq_getElem?_getD,List.getElem?_map]
 rcases Nat.lt_or_ge j 8 with hj | hj
 ·rw [List.getElem?_range hj]
  show 0≤(if b≤j∧j<b+i then m.getD (j - b) 0 else 0)∧(if b≤j∧j<b+i then m.getD (j - b) 0 else 0)≤255
  split
  ·exact h.bd _
  ·omega
 ·rw [List.getElem?_eq_none (by simp;omega)]
  simp⟩
theorem shP_zero (b:Nat) (m:List Int):shP b m 0=List.replicate 8 0:=by
 unfold shP;apply List.ext_getElem (by simp);intro j h1 h2;simp only [List.getElem_map,List.getElem_range,List.getElem_replicate];rw [if_neg (by omega)]
theorem shP_succ {b:Nat} {m:List Int} {i:Nat} (hi:i+b<8):(shP b m i).set (i+b) (m.getD i 0)=shP b m (i+1):=by
 apply List.ext_getElem (by simp);intro j h1 h2;rw [List.getElem_set];simp only [shP,List.getElem_map,List.getElem_range]
 by_cases e:i+b=j
 ·subst e;rw [if_pos rfl,if_pos (by omega)]
  congr 1
  omega
 ·rw [if_neg e]
  by_cases e2:b≤j∧j<b+i
  ·rw [if_pos e2,if_pos (by omega)]
  ·rw [if_neg e2,if_neg (by omega)]
theorem shP_end {b:Nat} {m:List Int} {i:Nat} (hi:8≤i+b):shP b m i=shM b m:=by
 apply List.ext_getElem (by simp);intro j h1 h2
 have h3:j<8:=by simpa using h1
 simp only [shP,shM,List.getElem_map,List.getElem_range]
 by_cases e:j<b
 ·rw [if_neg (by omega),if_pos e]
 ·rw [if_pos (by omega),if_neg e]
theorem shM_copy {b:Nat} {t:Term} (hb:b<8) (h:t.wf):([.int .u8 0,.int .u8 0,.int .u8 0,.int .u8 0,.int .u8 0,.int .u8 0,.int .u8 0,.int .u8 0]:List Value).take (0+b)++(t.c.drop 0).take (8 - b)++([.int .u8 0,.int .u8 0,.int .u8 0,.int .u8 0,.int .u8 0,.int .u8 0,.int .u8 0,.int .u8 0]:List Value).drop (0+b+(8 - b))=bytesC (shM b t.mono):=by
 obtain ⟨a0,a1,a2,a3,a4,a5,a6,a7,e⟩:=list8_ex h.mono.len;unfold Term.c;rw [e]
 rcases (by omega:b=0∨b=1∨b=2∨b=3∨b=4∨b=5∨b=6∨b=7) with hb | hb | hb | hb | hb | hb | hb | hb <;> subst hb <;> rfl
section
variable {P : Program} {ops : Array Oper} {Q : Exit → Act → World → Prop} {n : Nat} {B : World} {H0 H : HP} {rest : List Oper} {us : List (Nat × Value)} {L L' : List SA} {t : TypeId} {p : String} {af : Array Edge} {d : Nat} {x y : Operand}
theorem run_append_mk (w:World) (t ti ty e:TypeId) (i:TypeInfo) (z:Value) (ht:P.underlying t=some (.slice e)) (hti:P.underlying ti=some (.int .i64)) (hi:P.info? e=some i) (hz:i.zero=some z) (hs:i.size=1) (n:Nat) (h0:0<n) (hn:n≤1048576) (hb:i.bytes≤64):(Builtin.append_ #[t,ti] ty #[.slice none 0 0,.int .i64 (n:Int)]).run P w = .ok (.slice (some ⟨w.heap.size,0,none⟩) n (grownCap w n 0 e)) (w.drew.alloc (.cells (Builtin.zeroCells z.cells n++Builtin.zeroCells z.cells (grownCap w n 0 e - n)) e)):=by
 have hn':n≠0:=by omega
 have hnb:n * i.bytes≤1048576 * 64:=Nat.mul_le_mul hn hb
 have h63' : ¬(9223372036854775807<(n:Int)):=by omega
 have h48' : ¬(281474976710656<Builtin.nextslicecap n 0 * i.bytes):=by rw [nextslicecap_zero h0];omega
 have hw:IntKind.i64.wrap (n:Int)=(n:Int):=nw _ (by omega)
 have hl0 : ¬((n:Int)<0):=by omega
 have h0i : ¬((n:Int)≤0):=by omega
 have hmx:max (n:Int) 0=n:=by omega
 have h48i : ¬((281474976710656:Int)<(n:Int) * (i.bytes:Int)):=by
  have:((n * i.bytes:Nat):Int)≤1048576 * 64:=by omega
  rw [Int.natCast_mul] at this
  omega
 simp [Builtin.append_,run_underlying ht,run_underlying hti,sizeOf,typeInfo,zeroValue,hi,hz,hs,asInt,asIntOf,hw,hl0,h48i,h0i,hmx,hn',h63',h48',Question.forced,run_firstCells_none,newRow,grownCap]
theorem J.appendMk {ty ti e:TypeId} {z:Value} {bytes m:Nat} {j:Int} (hu:P.underlying ty=some (.slice e)) (hti:P.underlying ti=some (.int .i64)) (hz:Zero P e [z]) (hs:Size P e 1) (hb:Bytes P e bytes) (hB:Nat.ble bytes 64=true) (hx:opv us x=some (.slice none 0 0)) (hy:opv us y=some (.int .i64 j)) (hj:j=(m:Int)) (h0:0<m) (hm:m≤1048576) (hd:Nat.blt d n=true) (hk : ∀g c,J P ops Q n B H0 rest ((d,.slice (some ⟨g,0,none⟩) m c)::us) H (own e 1 (some ⟨g,0,none⟩) 0 c []::L)):J P ops Q n B H0 (⟨some d,.call {callee:=.builtin .append,args:=#[x,y],argTypes:=#[ty,ti]},t,p,af,none⟩::rest) us H L:=by
 subst hj;obtain ⟨i,z',hq,hiz,hzc,his,hib⟩:=info_of (z:=[z]) hz hs hb;have hB':=Nat.le_of_ble_eq_true hB;refine J.val hd fun a w hF hH=>?_;have hr:=run_append_mk (P:=P) w ty ti t e i z' hu hti hq hiz (by simpa using his) m h0 hm (by omega);have hge:=grownCap_ge w m 0 e;have hle:=grownCap_le_maxLen w m 0 e (by simp only [maxLen];omega);refine ⟨.slice (some ⟨w.heap.size,0,none⟩) m (grownCap w m 0 e),_,?_,fun a' hF'=>hk w.heap.size (grownCap w m 0 e) a' (w.drew.alloc (.cells (Builtin.zeroCells z'.cells m++Builtin.zeroCells z'.cells (grownCap w m 0 e - m)) e)) hF' ?_⟩
 ·simp [execOp,resolve,invoke,builtin,hF.ev hx,hF.ev hy,hr]
 ·have hD:Hp B H0 H L w.drew:=hH.chg0 (w':=w.drew) ⟨rfl,rfl,rfl,Nat.le_refl _,fun _ _ _=>rfl⟩;have hA:=hD.alloc (.cells (Builtin.zeroCells z'.cells m++Builtin.zeroCells z'.cells (grownCap w m 0 e - m)) e)
  have hsz:(Builtin.zeroCells z'.cells m++Builtin.zeroCells z'.cells (grownCap w m 0 e - m)).toList.length=grownCap w m 0 e:=by
   rw [hzc]
   simp [Builtin.zeroCells]
   omega
  have h2:=own_of_obj (cs:=(Builtin.zeroCells z'.cells m++Builtin.zeroCells z'.cells (grownCap w m 0 e - m)).toList) (m:=0) (c:=grownCap w m 0 e) (sz:=1) (e:=e) (g:=w.heap.size) (L':=own e 1 (some ⟨w.heap.size,0,none⟩) 0 (grownCap w m 0 e) []::L) hA (by rw [hsz];omega) (Nat.zero_le _) hle .z;exact h2
theorem PR.capS {ty e:TypeId} {q:Option Addr} {m c:Nat} (hu:P.underlying ty=some (.slice e)) (hx:opv us x=some (.slice q m c)) :
 PR P n B H0 us H L (.call {callee:=.builtin .cap,args:=#[x],argTypes:=#[ty]}) t (.int .i64 (c:Int)):=
 fun _ _ _ _ a w hF _=>by
  have hu':P.underlying ty=some (.slice (P.elem ty)):=by rw [elem_slice hu];exact hu
  simp [execOp,resolve,invoke,builtin,hF.ev hx,run_cap_slice w ty t q m c hu',goInt]
end
theorem obj_rows2 {g:Nat} {q1 q2:Option Addr} {c1 c2:Nat} {xs ys:List Int} {e:TypeId} {fr:Nat × Nat} {h:HP} (hh:(obj g (.cells [.slice q1 xs.length c1,.slice q2 ys.length c2].toArray e fr)).holds h) (h1:Ints h q1 xs) (h2:Ints h q2 ys) (l1:xs.length≤c1) (l2:ys.length≤c2):RowsR h (some ⟨g,0,none⟩) [xs,ys]:=fun i hi=>by
 have h0:h g=some (.cells [.slice q1 xs.length c1,.slice q2 ys.length c2].toArray e fr):=hh
 match i,hi with
 | 0,_=>exact ⟨q1,c1,by simp [cellO,cellH,add_at,h0,rw_],l1,h1⟩
 | 1,_=>exact ⟨q2,c2,by simp [cellO,cellH,add_at,h0,rw_],l2,h2⟩
 | i+2,hi=>exact absurd hi (by simp)
theorem rw_eq' {rs:List (List Int)} {k:Nat} (hk:k<rs.length):rs[k]=rw_ rs k:=by simp [rw_,List.getD_eq_getElem?_getD,List.getElem?_eq_getElem hk]
def flK (rs:List (List Int)) (k:Nat):List Int:=(rs.take k).flatten
theorem flK_len (rs:List (List Int)) (k:Nat):(flK rs k).length=totI (rs.take k):=by
 unfold flK;generalize rs.take k=l
 induction l with
 | nil=>rfl
 | cons r l ih=>simp [totI,ih]
theorem flK_succ {rs:List (List Int)} {k:Nat} (hk:k<rs.length):flK rs (k+1)=flK rs k++rw_ rs k:=by
 unfold flK;rw [List.take_succ_eq_append_getElem hk,List.flatten_append,rw_eq' hk]
 simp
theorem flK_end (rs:List (List Int)):flK rs rs.length=rs.flatten:=by simp [flK]
def Bts (H:HP) (q:Option Addr) (xs:List Int):Prop:=∀i,i<xs.length→cellO H q i=some (.int .u8 (xs.getD i 0))
theorem Bts.le {H H':HP} {q:Option Addr} {xs:List Int} (h:Bts H q xs) (hle:Le H H'):Bts H' q xs:=fun i hi=>cellO_le hle (h i hi)
theorem Bts.sm {H:HP} {q:Option Addr} {xs:List Int} (h:Bts H q xs) {i:Nat} (hi:i<xs.length):q.isSome=true:=cellO_some (h i hi)
section
variable {P : Program} {ops : Array Oper} {Q : Exit → Act → World → Prop} {n : Nat} {B : World} {H0 H : HP} {rest : List Oper} {us : List (Nat × Value)} {L L' : List SA} {t xt yt : TypeId} {p : String} {af : Array Edge} {d : Nat} {x y z : Operand}
theorem PR.shr {k yk:IntKind} {i j r:Int} (hx:opv us x=some (.int k i)) (hy:opv us y=some (.int yk j)) (h0:0≤j) (hr:i.fdiv (2 ^ (min j.toNat k.bits))=r):PR P n B H0 us H L (.binOp .shr xt x y yt) t (.int k r):=
 fun _ _ _ _ a w hF _=>by
  subst hr
  have e:Op.shift .shr k i yk j=pure (.int k (i.fdiv (2 ^ (min j.toNat k.bits)))):=by
   unfold Op.shift
   rw [if_neg (by omega)]
  simp [execOp,hF.ev hx,hF.ev hy,eqGuard,binOp,e]
theorem PR.andK {k:IntKind} {i j r:Int} (hx:opv us x=some (.int k i)) (hy:opv us y=some (.int k j)) (hr:k.wrap ((BitVec.ofInt k.bits i &&& BitVec.ofInt k.bits j).toNat)=r):PR P n B H0 us H L (.binOp .and xt x y yt) t (.int k r):=
 fun _ _ _ _ a w hF _=>by
  subst hr
  have e:Op.intBits .and k i j=pure (.int k (k.wrap ((BitVec.ofInt k.bits i &&& BitVec.ofInt k.bits j).toNat))):=rfl
  simp [execOp,hF.ev hx,hF.ev hy,eqGuard,binOp,e]
end
structure Src where
 pos:Nat
 hash:Int
def hshN (h:Int):Int:=IntKind.u64.wrap (IntKind.u64.wrap (h * 6364136223846793005)+1442695040888963407)
def hshV (h:Int):Int:=IntKind.i64.wrap (IntKind.u64.wrap ((BitVec.ofInt 64 ((hshN h).fdiv (2 ^ 33)) &&& BitVec.ofInt 64 16777215).toNat))
theorem hshV_bd (h:Int):0≤hshV h∧hshV h≤16777215:=by
 have h1:(BitVec.ofInt 64 ((hshN h).fdiv (2 ^ 33)) &&& BitVec.ofInt 64 16777215).toNat≤16777215:=by
  rw [BitVec.toNat_and];exact Nat.le_trans Nat.and_le_right (by decide)
 unfold hshV;generalize (BitVec.ofInt 64 ((hshN h).fdiv (2 ^ 33)) &&& BitVec.ofInt 64 16777215).toNat=m at h1 ⊢
 have e1:IntKind.u64.wrap (m:Int)=m:=by unfold IntKind.wrap;simp [IntKind.bits,IntKind.signed];omega
 rw [e1]
 have e2:IntKind.i64.wrap (m:Int)=m:=by unfold IntKind.wrap;simp [IntKind.bits,IntKind.signed];omega
 rw [e2]
 omega
def nxX (code:List Int) (σ:Src):Int:=hshV σ.hash+(if σ.pos<code.length then code.getD σ.pos 0 else 0)
def nxV (code:List Int) (σ:Src) (n:Int):Int:=if n<1 then 0 else (nxX code σ).tmod n
def nxS (code:List Int) (σ:Src) (n:Int):Src:=if n<1 then σ else ⟨if σ.pos<code.length then σ.pos+1 else σ.pos,hshN σ.hash⟩
def BtOk (code:List Int):Prop:=∀i,0≤code.getD i 0∧code.getD i 0≤255
theorem nxX_bd {code:List Int} (h:BtOk code) (σ:Src):0≤nxX code σ∧nxX code σ≤16777470:=by
 have h1:=hshV_bd σ.hash;have h2:=h σ.pos;unfold nxX
 split <;> omega
theorem nxV_bd {code:List Int} (h:BtOk code) (σ:Src) (n:Int):0≤nxV code σ n∧nxV code σ n≤16777470∧(1≤n→nxV code σ n<n):=by
 have h1:=nxX_bd h σ;unfold nxV
 split
 ·omega
 ·rename_i hn
  have e:(nxX code σ).tmod n=nxX code σ % n:=Int.tmod_eq_emod_of_nonneg h1.1;rw [e];have h2:=Int.emod_nonneg (nxX code σ) (show n≠0 by omega);have h3:=Int.emod_lt_of_pos (nxX code σ) (show 0<n by omega);have h4:=Int.mul_nonneg (show 0≤n by omega) (Int.ediv_nonneg h1.1 (show 0≤n by omega));have h5:=Int.mul_ediv_add_emod (nxX code σ) n;generalize n * (nxX code σ / n)=q at h4 h5;generalize nxX code σ % n=r at h2 h3 h5 ⊢;generalize nxX code σ=u at h1 h5 ⊢;refine ⟨?_,?_,?_⟩ <;> intros <;> omega
def optL {α:Type}:List (Option α)→Option (List α)
 | []=>some []
 | none::_=>none
 | some x::r=>(optL r).map (x :: ·)
theorem optL_map {α β:Type} {f:α→Option β} : ∀{xs:List α} {vs:List β},optL (xs.map f)=some vs→xs.map f=vs.map some
 | [],vs,h=>by
  simp only [List.map_nil,optL,Option.some.injEq] at h
  rw [← h]
  rfl
 | x::xs,vs,h=>by
  simp only [List.map_cons] at h
  cases hx:f x with
  | none=>rw [hx] at h;simp [optL] at h
  | some v=>
   rw [hx] at h
   simp only [optL] at h
   cases hr:optL (xs.map f) with
   | none=>rw [hr] at h;cases h
   | some ws=>
    rw [hr] at h
    simp only [Option.map_some,Option.some.injEq] at h
    rw [← h,List.map_cons,List.map_cons,hx,optL_map hr]
theorem fill_ones (z:Value) : ∀(vs done:List Value),(∀v∈vs,v.cells = #[v])→Instr.fill (fun i=>some (i * 1,1)) (done++List.replicate vs.length z).toArray ((vs.zipIdx done.length).map fun p=>(p.2,p.1))=some (done++vs).toArray
 | [],done,_=>by simp [Instr.fill]
 | v::vs,done,h=>by
  have h1:=h v List.mem_cons_self
  have h2:=fill_ones z vs (done++[v]) fun x hx=>h x (List.mem_cons_of_mem _ hx)
  have e:(done++List.replicate (v::vs).length z).toArray.setIfInBounds (done.length * 1+0) v=(done++[v]++List.replicate vs.length z).toArray:=by
   simp [List.replicate_succ,Array.setIfInBounds,List.set_append]
  simp only [List.zipIdx_cons,List.map_cons,Instr.fill,h1]
  rw [if_neg (by first | (simp;done) | (simp;omega))]
  have e2:(Array.zipIdx #[v]).foldl (fun cs x=>match x with | (c,j)=>cs.setIfInBounds (done.length * 1+j) c) (done++List.replicate (v::vs).length z).toArray=(done++[v]++List.replicate vs.length z).toArray:=by
   rw [← e]
   simp
  rw [e2]
  rw [show done.length+1=(done++[v]).length by simp,h2]
  simp
section
variable {P : Program} {ops : Array Oper} {Q : Exit → Act → World → Prop} {n : Nat} {B : World} {H0 H : HP} {rest : List Oper} {us : List (Nat × Value)} {L L' : List SA} {t xt yt : TypeId} {p : String} {af : Array Edge} {d : Nat} {x y z : Operand}
theorem J.litN {ty e:TypeId} {m:Nat} {parts:Array (Nat × Operand)} {z:Value} (vs:List Value) (hu:P.underlying ty=some (.slice e)) (hz:Zero P e [z]) (hs:Size P e 1) (hp:parts.toList=((parts.toList.map Prod.snd).zipIdx.map fun p=>(p.2,p.1))) (hx:optL ((parts.toList.map Prod.snd).map (opv us))=some vs) (hm:vs.length=m) (hm2:m≤1000) (hm3:0<m) (hc : ∀v∈vs,v.cells = #[v]) (hd:Nat.blt d n=true) (hk : ∀g,J P ops Q n B H0 rest ((d,.slice (some ⟨g,0,none⟩) m m)::us) H (own e 1 (some ⟨g,0,none⟩) m m vs::L)):J P ops Q n B H0 (⟨some d,.buildSlice ty m parts,t,p,af,none⟩::rest) us H L:=by
 subst hm;refine J.val hd fun a w hF hH=>⟨.slice (some ⟨w.heap.size,0,none⟩) vs.length vs.length,w.alloc (.cells vs.toArray e),?_,fun a' hF'=>J.toOwn (cs:=vs) vs.length vs.length 1 (by simp) (Nat.le_refl _) (by unfold maxLen;omega) (by rw [Nat.mul_one,List.take_length];exact .z) (hk _) a' _ hF' (hH.alloc _)⟩;obtain ⟨z',hr,hzc⟩:=hz.run w;have h1:=optL_map hx
 have h2:(parts.toList.map fun q=>(q.1,a.eval q.2))=(vs.zipIdx).map fun q=>(q.2,q.1):=by
  rw [hp];rw [List.map_map]
  have h3 : ∀(xs:List Operand) (ws:List Value) (k:Nat),xs.map (opv us)=ws.map some→(xs.zipIdx k).map ((fun q:Nat × Operand=>(q.1,a.eval q.2)) ∘ fun q=>(q.2,q.1))=(ws.zipIdx k).map fun q=>(q.2,q.1):=by
   intro xs
   induction xs with
   | nil=>intro ws k h;cases ws with | nil=>rfl | cons _ _=>simp at h
   | cons x xs ih=>
    intro ws k h
    cases ws with
    | nil=>simp at h
    | cons v ws=>
     simp only [List.map_cons,List.cons.injEq] at h;simp only [List.zipIdx_cons,List.map_cons,Function.comp,hF.ev h.1];rw [← ih ws (k+1) h.2]
  exact h3 _ _ 0 h1
 have h4:(parts.map fun q=>(q.1,a.eval q.2)).toList=(vs.zipIdx).map fun q=>(q.2,q.1):=by rw [Array.toList_map];exact h2
 have h5:=fill_ones z vs [] hc;simp only [JxB,List.length_nil] at h5;simp only [Nat.mul_one] at h5
 have h6:(Array.map (fun x=>([z]:List Value)[x % 1]?.getD default) (Array.range vs.length))=(List.replicate vs.length z).toArray:=by
  apply Array.ext
  ·simp
  ·intro i h7 h8
   simp [Nat.mod_one]
 have h8:vs≠ []:=fun e=>by rw [e] at hm3;simp at hm3
 simp only [execOp,Instr.buildSlice]
 simp [run_underlying hu,hs.run,newRow,hr,hzc]
 rw [if_neg (by omega),if_neg h8,h6,h2,h5]
 simp
theorem PR.buildC {ty:TypeId} {parts:Array (Nat × Operand)} {vs cs:List Value} (hx:optL ((parts.toList.map Prod.snd).map (opv us))=some vs) (hb : ∀w,(Instr.build ty ((parts.toList.map Prod.fst).zip vs).toArray).run P w = .ok (.agg cs.toArray) w):PR P n B H0 us H L (.build ty parts) t (.agg cs.toArray):=
 fun _ _ _ _ a w hF _=>by
  have h1:=optL_map hx
  have h2 : ∀(xs:List (Nat × Operand)) (ws:List Value),(xs.map Prod.snd).map (opv us)=ws.map some→xs.map (fun q=>(q.1,a.eval q.2))=(xs.map Prod.fst).zip ws:=by
   intro xs
   induction xs with
   | nil=>intro ws h;rfl
   | cons x xs ih=>
    intro ws h
    cases ws with
    | nil=>simp at h
    | cons v ws=>
     simp only [List.map_cons,List.cons.injEq] at h
     simp only [List.map_cons,List.zip_cons_cons,hF.ev h.1,ih ws h.2]
  have h3:parts.map (fun q=>(q.1,a.eval q.2))=((parts.toList.map Prod.fst).zip vs).toArray:=by
   apply Array.toList_inj.1
   rw [Array.toList_map,h2 _ _ h1]
  have h4:=hb w
  rw [← h3] at h4
  simp [execOp,h4]
end
end Go.Proofs.YtffgojlocbafhaaGreatDoor.G
namespace Go.Proofs.YtffgojlocbafhaaGreatDoor.G
open Go Go.RowKit Go.ChangeShapes Go.WideShapes Go.ChangeAt
section
variable {E : Type} {enc : TypeId × Value → E} {P : Program} {w : World} {base b0 : Nat} {r : Reach} {sp : Nat → Bool} {held : Bool} {t : TypeId} {v : Value} {d : DataW E} {p : List MemPlace}
theorem openV_bytes {e:TypeId} (ht:P.underlying t=some (.slice e)) (he:P.underlying e=some (.int .u8)) (hc:P.cellsOf e=1) (hv:Value.okWide P w r b0 t v) (h:DataW.Trod enc P w base sp held t v d p) : ∃q xs c,v = .slice q xs.length c∧Bts (hp w) q xs∧BtOk xs:=by
 obtain ⟨a,len,cap,rfl⟩:=okWide_slice ht hv;obtain ⟨fuel,hf⟩:=h
 obtain ⟨q,c,xs,h1,h2,h3⟩:=tr_slice (R:=fun (b:Int) l=>l=[.int .u8 b]∧0≤b∧b≤255) ht hc (fun n l y hy=>by
  obtain ⟨b,hb,_,hw⟩:=DataW.trod_int he hy
  exact ⟨b,hb,wf_u8 hw⟩) hf
 have get : ∀i,i<xs.length→xs[i]? = some (xs.getD i 0):=fun i hi=>by simp [List.getD_eq_getElem?_getD,List.getElem?_eq_getElem hi]
 obtain ⟨rfl,rfl,rfl⟩:a=q∧len=xs.length∧cap=c:=by simpa [Value.cells] using h1
 refine ⟨_,xs,_,rfl,fun i hi=>?_,fun i=>?_⟩
 ·obtain ⟨l,_,⟨rfl,_⟩,hl⟩:=h3 i _ (get i hi);have:=hl 0 _ rfl
  simpa using this
 ·rcases Nat.lt_or_ge i xs.length with hi | hi
  ·obtain ⟨l,_,⟨_,hb⟩,_⟩:=h3 i _ (get i hi);exact hb
  ·rw [List.getD_eq_getElem?_getD,List.getElem?_eq_none hi]
   simp
end
theorem own_some {e:TypeId} {sz m c:Nat} {q:Option Addr} {cells:List Value} {h:HP} (hh:(own e sz q m c cells).holds h) (hm:0<m):q.isSome=true:=by
 rcases hh.2 with ⟨_,h2,_⟩ | ⟨g,cur,rfl,_⟩
 ·omega
 ·rfl
theorem Chg.more {F F':Nat→Prop} {w w':World} (h:Chg F w w') (hF : ∀b,F b→F' b):Chg F' w w':=⟨h.os,h.tape,h.output,h.size,fun b hb hn=>h.same b hb fun hf=>hn (hF b hf)⟩
section
variable {P : Program} {ops : Array Oper} {Q : Exit → Act → World → Prop} {n : Nat} {B : World} {H0 H : HP} {rest : List Oper} {us : List (Nat × Value)} {L L' : List SA} {t : TypeId} {p : String} {af : Array Edge} {d : Nat} {x y : Operand} {R : Act → World → Prop}
theorem PR.eqv {op:Op} {v v':Value} (e:v=v') (h:PR P n B H0 us H L op t v):PR P n B H0 us H L op t v':=e ▸ h
theorem EM {ty e:TypeId} {k:IntKind} {q:Option Addr} {m c:Nat} {i:Int} {i':Nat} {cells:List Value} (hu:P.underlying ty=some (.slice e)) (hs:Size P e 1) (hx:opv us x=some (.slice q m c)) (hy:opv us y=some (.int k i)) (hi:i=(i':Int)) (hl:i'<m) (hat:At L (own e 1 q m c cells) (own e 1 q m c cells) L) :
 PR P n B H0 us H L (.indexAddr ty x y) t (ptr q i'):=fun d p af g a w hF hH=>Eg hu hs hx hy hi hl (fun _=>own_some (hH.objs _ hat.mem).1 (by omega)) d p af g a w hF hH
theorem J.storeW {ty e:TypeId} {q:Option Addr} {m c k:Nat} {cells:List Value} {v:Value} (hx:opv us x=some (ptr q k)) (hy:opv us y=some v) (hv:v.cells = #[v]) (h1:v.oneCell'=true) (hs:Size P ty 1) (hl:k<m) (hat:At L (own e 1 q m c cells) (own e 1 q m c (cells.set k v)) L') (hk:J P ops Q n B H0 rest us H L'):J P ops Q n B H0 (⟨none,.store ty x y,t,p,af,none⟩::rest) us H L:=by
 refine J.unit fun a w hF hH=>?_;have hA:=(hH.objs _ hat.mem).1;obtain ⟨hc,h2⟩:=hA
 rcases h2 with ⟨_,h2,_⟩ | ⟨g,cur,rfl,hg,h3,h4,h5,h6⟩
 ·omega
 ·have hg':w.heap[g]? = some (.cells cur e (0,0)):=hg
  have hlk:k<cur.toList.length:=by simp;omega
  have hst:=run_storeCells_at P g k e [v] 0 cur w hg' (by simp;omega) (by simpa using h1);have hch:Chg (own e 1 (some (⟨g,0,none⟩:Addr)) m c cells).fp w (w.setRow g (cur.toList.set k v).toArray):=(chg_setRow (cs:=(cur.toList.set k v).toArray) hg').more fun b (hb:b=g)=>⟨⟨g,0,none⟩,rfl,hb.symm⟩;refine ⟨_,?_,hk a _ hF (hH.upd hat hch ?_ fun b hb=>?_)⟩
  ·simp only [Nat.add_zero] at hst
   have e1:ptr (some (⟨g,0,none⟩:Addr)) k = .pointer (some ⟨g,k,none⟩):=by simp [ptr,add_at]
   have e2:cur.toList.take k++[v]++cur.toList.drop (k+1)=cur.toList.set k v:=set_eq_take_drop _ _ _ hlk;have e3:cur.toList.take k++[v]++cur.toList.drop (k+[v].length)=cur.toList.set k v:=e2;rw [e3] at hst;rw [e1] at hx
   simp [execOp,Instr.storeAt,Instr.sureAddr,storeVar,hF.ev hx,hF.ev hy,hv,hs.run,hst]
  ·refine ⟨by simpa using hc,.inr ⟨g,_,rfl,setRow_heap w g cur _ e (0,0) hg',h3,h4,by simpa using h5,?_⟩⟩;simp only [List.toList_toArray];rw [List.take_set,h6]
  ·obtain ⟨q,hq,rfl⟩:=hb;have:=hp_lt hg;obtain rfl:q=⟨g,0,none⟩:=(Option.some.inj hq).symm;refine ⟨.inl ⟨_,rfl,rfl⟩,?_⟩
   simpa using this
theorem J.storeWI {ty e:TypeId} {q:Option Addr} {m c k:Nat} {xs:List Int} {v:Int} (hx:opv us x=some (ptr q k)) (hy:opv us y=some (.int .i64 v)) (hs:Size P ty 1) (hl:k<m)
 (hat:At L (own e 1 q m c (intsC xs)) (own e 1 q m c (intsC (xs.set k v))) L') (hk:J P ops Q n B H0 rest us H L'):J P ops Q n B H0 (⟨none,.store ty x y,t,p,af,none⟩::rest) us H L:=
 J.storeW hx hy rfl rfl hs hl (by rw [intsC_set];exact hat) hk
end
def l8C (cf:List Int→List Value) (ps:List (List Int)):List Value:=ps.flatMap cf
abbrev msC:List (List Int)→List Value:=l8C bytesC
structure Cf8 (cf:List Int→List Value):Prop where
 len : ∀p,(cf p).length=p.length
 one : ∀p,∀u∈cf p,u.oneCell'=true
theorem cf8B:Cf8 bytesC:=⟨bytesC_length,bytesC_one⟩
theorem l8C_app (cf:List Int→List Value) (a b:List (List Int)):l8C cf (a++b)=l8C cf a++l8C cf b:=by unfold l8C;rw [List.flatMap_append]
theorem l8C_one (cf:List Int→List Value) (p:List Int):l8C cf [p]=cf p:=by simp [l8C]
theorem l8C_get {cf:List Int→List Value} (hc:Cf8 cf) : ∀{ps:List (List Int)},(∀p∈ps,p.length=8)→∀{i:Nat},i<ps.length→∀{j:Nat} {v:Value},(cf (rw_ ps i))[j]? = some v→(l8C cf ps)[i * 8+j]? = some v
 | [],_,i,hi,_,_,_=>by simp at hi
 | t::ts,h,0,_,j,v,hj=>by
  have hj':(cf t)[j]? = some v:=hj
  show (cf t++l8C cf ts)[_]? = _
  rw [Nat.zero_mul,Nat.zero_add,List.getElem?_append_left (List.getElem?_eq_some_iff.1 hj').1]
  exact hj'
 | t::ts,h,i+1,hi,j,v,hj=>by
  have hl:=h t (by simp)
  have hcl:=hc.len t
  show (cf t++l8C cf ts)[_]? = _
  rw [List.getElem?_append_right (by omega),hcl,hl,show (i+1) * 8+j - 8=i * 8+j by omega]
  exact l8C_get hc (fun x hx=>h x (by simp [hx])) (by simpa using hi) hj
structure L8 (cf:List Int→List Value) (H:HP) (q:Option Addr) (ps:List (List Int)):Prop where
 len : ∀i,i<ps.length→(rw_ ps i).length=8
 clen : ∀p,(cf p).length=p.length
 cell : ∀i,i<ps.length→∀j v,(cf (rw_ ps i))[j]? = some v→cellO H q (i * 8+j)=some v
abbrev Monos (H:HP) (q:Option Addr) (ps:List (List Int)):Prop:=L8 bytesC H q ps
theorem L8.sm {cf:List Int→List Value} {H:HP} {q:Option Addr} {ps:List (List Int)} (h:L8 cf H q ps) {i:Nat} (hi:i<ps.length):q.isSome=true:=by
 have hl:(cf (rw_ ps i)).length=8:=by rw [h.clen,h.len i hi]
 exact cellO_some (h.cell i hi 0 _ (List.getElem?_eq_getElem (by omega)))
theorem rw_all {ps:List (List Int)} {φ:List Int→Prop} (h : ∀p∈ps,φ p) {i:Nat} (hi:i<ps.length):φ (rw_ ps i):=by
 have:rw_ ps i=ps[i]:=by simp [rw_,List.getD_eq_getElem?_getD,List.getElem?_eq_getElem hi]
 rw [this];exact h _ (List.getElem_mem hi)
theorem own_monos {e:TypeId} {m c:Nat} {q:Option Addr} {ps:List (List Int)} {h:HP} (hl : ∀p∈ps,p.length=8) (hh:(own e 8 q m c (msC ps)).holds h):Monos h q ps:=
 ⟨fun i hi=>rw_all hl hi,bytesC_length,fun i hi j v hj=>own_reads hh _ _ (l8C_get cf8B hl hi hj)⟩
section
variable {P : Program} {ops : Array Oper} {Q : Exit → Act → World → Prop} {n : Nat} {B : World} {H0 H : HP} {rest : List Oper} {us : List (Nat × Value)} {L L1 : List SA} {t : TypeId} {p : String} {af : Array Edge} {d : Nat} {x y : Operand}
theorem MK.lit8 {cf:List Int→List Value} {ty e:TypeId} {m:List Int} {z:List Value} (hc:Cf8 cf) (hu:P.underlying ty=some (.slice e)) (hz:Zero P e z) (hz8:z.length=8) (hs:Size P e 8) (hm:m.length=8) (hx:opv us x=some (.agg (cf m).toArray)):MK P n us H (.buildSlice ty 1 #[(0,x)]) t (fun q c=>.slice q 1 c) (fun q c=>own e 8 q 1 c (cf m)):=by
 have h:=MK.lit1 (P:=P) (n:=n) (H:=H) (t:=t) (z:=z) (cs:=cf m) hu hz (by rw [hz8];exact hs) (by rw [hz8];rfl) (by rw [hz8];rfl) hx rfl (by rw [hc.len,hm,hz8]);rw [hz8] at h;exact h
theorem J.append8 {cf:List Int→List Value} {ty e:TypeId} {q qt:Option Addr} {k c ct bytes:Nat} {ps:List (List Int)} {m:List Int} {z:List Value} (hc:Cf8 cf) (hu:P.underlying ty=some (.slice e)) (hz:Zero P e z) (hz8:z.length=8) (hs:Size P e 8) (hb:Bytes P e bytes) (hB:Nat.ble bytes 64=true) (hx:opv us x=some (.slice q k c)) (hy:opv us y=some (.slice qt 1 ct)) (hk:k≤1048576) (hr:Rm L (own e 8 qt 1 ct (cf m)) L1) (hat:At L1 (own e 8 q k c (l8C cf ps)) (own e 8 q k c (l8C cf ps)) L1) {L':Option Addr→Nat→List SA} (hat' : ∀q' c',At L1 (own e 8 q k c (l8C cf ps)) (own e 8 q' (k+1) c' (l8C cf (ps++[m]))) (L' q' c')) (hd:Nat.blt d n=true) (hkk : ∀q' c',J P ops Q n B H0 rest ((d,.slice q' (k+1) c')::us) H (own e 8 qt 1 ct (cf m)::L' q' c')):J P ops Q n B H0 (⟨some d,.call {callee:=.builtin .append,args:=#[x,y],argTypes:=#[ty,ty]},t,p,af,none⟩::rest) us H L:=by
 have hB':=Nat.le_of_ble_eq_true hB
 have hat2 : ∀q' c',At L1 (own e 8 q k c (l8C cf ps)) (own e 8 q' (k+1) c' (l8C cf ps++cf m)) (L' q' c'):=fun q' c'=>by
  have:=hat' q' c'
  rwa [l8C_app,l8C_one] at this
 rw [← hz8] at hr hat hat2 hkk;rw [← hz8] at hs;refine J.appendO (z:=z) (ds:=cf m) hu hz hs hb (by rw [hz8];rfl) hx hy (hc.one m) ?_ (by simp only [maxLen];omega) hr hat hat2 hd hkk
 calc (k+1) * bytes≤(k+1) * 64:=Nat.mul_le_mul_left _ hB'
  _≤140737488355328:=by omega
end
section
variable {P : Program} {ops : Array Oper} {Q : Exit → Act → World → Prop} {n : Nat} {B : World} {H0 H : HP} {rest : List Oper} {us : List (Nat × Value)} {L L' : List SA} {t : TypeId} {p : String} {af : Array Edge} {d : Nat} {x y : Operand}
theorem all_range_int : ∀(xs ys:List Int),xs.length=ys.length→((List.range xs.length).all fun i=>xs.getD i 0 == ys.getD i 0)=(xs == ys)
 | [], [],_=>rfl
 | x::xs,y::ys,h=>by
  have ih:=all_range_int xs ys (by simpa using h)
  rw [List.length_cons,List.range_succ_eq_map,List.all_cons,List.all_map]
  simp only [List.getD_cons_zero,Function.comp_def,List.getD_cons_succ,ih]
  simp [List.cons_beq_cons]
 | [],_::_,h=>by simp at h
 | _::_, [],h=>by simp at h
theorem run_equalIn_u8 (w:World) (d:Nat) (t e:TypeId) (n:Nat) (ht:P.underlying t=some (.array n e)) (he:P.underlying e=some (.int .u8)) (hsz : ∀w,(sizeOf e).run P w = .ok 1 w) (xs ys:List Int) (hx:xs.length=n) (hy:ys.length=n):(Op.equalIn (d+2) t (.agg (bytesC xs).toArray) (.agg (bytesC ys).toArray)).run P w = .ok (decide (xs=ys)) w:=by
 rw [show decide (xs=ys)=(xs == ys) from by rw [Bool.eq_iff_iff];simp,← all_range_int xs ys (hx.trans hy.symm),hx,List.range_eq_range',Op.equalIn];simp only [Sem.run_bind,run_underlying ht,Result.andThen_ok,hsz,Std.Legacy.Range.forIn_eq_forIn_range',Std.Legacy.Range.size,Nat.sub_zero,Nat.add_sub_cancel,Nat.div_one]
 have hl : ∀i∈List.range' 0 n 1,i<n:=fun i hi=>by simpa using (List.mem_range'_1.1 hi).2
 generalize List.range' 0 n 1=l at hl ⊢
 induction l with
 | nil=>simp
 | cons i l ih=>
  have hi:i<n:=hl i (by simp)
  have px:(_root_.Go.part e (bytesC xs).toArray (i * 1)).run P w = .ok (.int .u8 (xs.getD i 0)) w:=by
   simp [_root_.Go.part,isAgg,run_underlying he,bytesC,List.getD,List.getElem?_eq_getElem (show i<xs.length by omega)]
  have py:(_root_.Go.part e (bytesC ys).toArray (i * 1)).run P w = .ok (.int .u8 (ys.getD i 0)) w:=by
   simp [_root_.Go.part,isAgg,run_underlying he,bytesC,List.getD,List.getElem?_eq_getElem (show i<ys.length by omega)]
  have pe:(Op.equalIn (d+1) e (.int .u8 (xs.getD i 0)) (.int .u8 (ys.getD i 0))).run P w = .ok (xs.getD i 0 == ys.getD i 0) w:=run_equalIn_int w d e .u8 .u8 _ _ he;simp only [List.forIn_cons,Sem.run_bind,px,py,pe,Result.andThen_ok,List.all_cons]
  cases hb:(xs.getD i 0 == ys.getD i 0)
  ·simp
  ·simp only [Bool.not_true,Bool.false_eq_true,if_false,Sem.run_pure,Result.andThen_ok,Bool.true_and];exact ih fun j hj=>hl j (by simp [hj])
end
section
variable {P : Program} {ops : Array Oper} {Q : Exit → Act → World → Prop} {n : Nat} {B : World} {H0 H : HP} {rest : List Oper} {us : List (Nat × Value)} {L L' : List SA} {t xt yt : TypeId} {p : String} {af : Array Edge} {d : Nat} {x y z : Operand}
theorem Size.sz {e:TypeId} {k:Nat} (hs:Size P e k) (w:World):(sizeOf e).run P w = .ok k w:=by
 unfold Size at hs;obtain ⟨i,h1,h2⟩:=Option.map_eq_some_iff.1 hs
 simp [sizeOf,typeInfo,h1,h2]
theorem term_eq (a b:Term):((a.mono=b.mono)∧a.fac=b.fac)↔a=b:=by
 cases a
 cases b
 simp
theorem PR.neqT {tm ti e:TypeId} {a b:Term} {f1 f2:Field} (ht:P.underlying xt=some (.struct (P.fieldsOf xt))) (hp:P.stoodInHeld xt=false) (hfs:(P.fieldsOf xt).toList=[f1,f2]) (n1:f1.name≠ "_") (t1:f1.type=tm) (o1:f1.offset=0) (n2:f2.name≠ "_") (t2:f2.type=ti) (o2:f2.offset=8)
 (hm:P.underlying tm=some (.array 8 e)) (he:P.underlying e=some (.int .u8)) (hs1:Size P e 1) (hs8:Size P tm 8) (hi:P.underlying ti=some (.int .i64)) (hg:P.eqGuardType P.depth xt=false) (hx:opv us x=some (.agg a.c.toArray)) (hy:opv us y=some (.agg b.c.toArray)) (ha:a.wf) (hb:b.wf) :
 PR P n B H0 us H L (.binOp .neq xt x y yt) t (.bool (!decide (a=b))):=
 fun _ _ _ _ ac w hF _=>by
  have la:a.mono.length=8:=ha.mono.len
  have lb:b.mono.length=8:=hb.mono.len
  have pm : ∀c:Term,c.mono.length=8→∀w,(_root_.Go.part tm c.c.toArray 0).run P w = .ok (.agg (bytesC c.mono).toArray) w:=fun c hc w=>by
   have e1:List.take 8 c.c=bytesC c.mono:=by
    unfold Term.c
    rw [List.take_append_of_le_length (by simp [bytesC,hc]),List.take_of_length_le (by simp [bytesC,hc])]
   simp [_root_.Go.part,isAgg,run_underlying hm,hs8.sz,e1]
  have pf : ∀c:Term,c.mono.length=8→∀w,(_root_.Go.part ti c.c.toArray 8).run P w = .ok (.int .i64 c.fac) w:=fun c hc w=>by
   have e1:(c.c.toArray)[8]? = some (.int .i64 c.fac):=by
    unfold Term.c
    simp [bytesC,hc]
   simp [_root_.Go.part,isAgg,run_underlying hi,e1]
  have q1:=run_equalIn_u8 (P:=P) w 9997 tm e 8 hm he (fun w=>hs1.sz w) a.mono b.mono la lb
  have q2:=run_equalIn_int (P:=P) w 9998 ti .i64 .i64 a.fac b.fac hi
  have q0:=run_equalIn_struct (P:=P) w 9999 xt a.c.toArray b.c.toArray ht hp
  have key:(Op.eqFields 9999 a.c.toArray b.c.toArray (P.fieldsOf xt).toList).run P w = .ok (decide (a=b)) w:=by
   rw [hfs]
   simp only [Op.eqFields,t1,o1,t2,o2]
   rw [if_pos n1]
   simp only [Sem.run_bind,pm a la,pm b lb,Result.andThen_ok,q1]
   by_cases hmm:a.mono=b.mono
   ·rw [decide_eq_true hmm]
    simp only [Bool.not_true,Bool.false_eq_true,if_false]
    rw [if_pos n2]
    simp only [Sem.run_bind,pf a la,pf b lb,Result.andThen_ok,q2]
    have e:decide (a=b)=(a.fac == b.fac):=by
     rw [Bool.eq_iff_iff]
     simp only [decide_eq_true_eq,beq_iff_eq]
     rw [← term_eq]
     exact ⟨fun h=>h.2,fun h=>⟨hmm,h⟩⟩
    rw [e]
    cases (a.fac == b.fac) <;> simp
   ·rw [decide_eq_false hmm]
    have e:decide (a=b)=false:=decide_eq_false fun h=>hmm (by rw [h])
    rw [e]
    simp
  rw [key] at q0
  simp [execOp,hF.ev hx,hF.ev hy,run_eqGuard_agg w .neq xt x y _ _ hg,run_neq_struct,q0]
end
theorem u2:Tryz.prog.underlying 2=some (TypeDesc.int .i64):=by kernel_rfl
theorem u24:Tryz.prog.underlying 24=some (TypeDesc.slice 2):=by kernel_rfl
theorem u5:Tryz.prog.underlying 5=some (TypeDesc.int .u8):=by kernel_rfl
theorem u87:Tryz.prog.underlying 87=some (TypeDesc.array 8 5):=by kernel_rfl
theorem sz2:Size Tryz.prog 2 1:=by unfold Size;kernel_rfl
theorem sz5:Size Tryz.prog 5 1:=by unfold Size;kernel_rfl
theorem pl2:Plain Tryz.prog 2:=⟨_,u2,rfl⟩
theorem pl5:Plain Tryz.prog 5:=⟨_,u5,rfl⟩
theorem ag87:Agg Tryz.prog 87 8:=⟨_,u87,rfl,by kernel_rfl⟩
theorem fn53:Fn Tryz.prog 53:=⟨_,Tryz.func53,by kernel_rfl,rfl⟩
def most (ds:List Int) (i:Nat):Int:=if i<ds.length then (if (ds.getD i 0).tmod 2=1 then 1 else 20) else 0
theorem most_ge {ds:List Int} {k:Nat} (h:(ds.length:Int)≤k):most ds k=0:=by unfold most;rw [if_neg (by omega)]
theorem most_odd {ds:List Int} {k:Nat} (h : ¬((ds.length:Int)≤k)) (ho:(ds.getD k 0).tmod 2≠0) (hp:0≤ds.getD k 0):most ds k=1:=by
 unfold most;rw [Int.tmod_eq_emod_of_nonneg hp] at ho ⊢;rw [if_pos (by omega),if_pos (by omega)]
theorem most_even {ds:List Int} {k:Nat} (h : ¬((ds.length:Int)≤k)) (ho : ¬(ds.getD k 0).tmod 2≠0):most ds k=20:=by
 unfold most;rw [if_pos (by omega),if_neg (by omega)]
def isMono (ds m:List Int):Bool:=(List.range 8).all fun i=>decide (m.getD i 0≤most ds i)
theorem isMono_false {ds m:List Int} {k:Nat} (hk:k<8) (h:most ds k<m.getD k 0):isMono ds m=false:=by
 unfold isMono;rw [List.all_eq_false];exact ⟨k,by simp [hk],by rw [decide_eq_true_eq];omega⟩
theorem isMono_true {ds m:List Int} (h : ∀j,j<8→m.getD j 0≤most ds j):isMono ds m=true:=by
 unfold isMono;rw [List.all_eq_true];intro j hj
 simpa using h j (by simpa using hj)
theorem within_c {B:World} {H0 H:HP} {L:List SA} {w:World} {x:Int} {lo:Int} {hi:Int} (hH:Hp B H0 H L w):Calls Tryz.prog 48 [.int .i64 x,.int .i64 lo,.int .i64 hi].toArray w fun e w'=>e = .returned (.bool (decide (lo≤x) && decide (x≤hi)))∧Hp B H0 H L w':=by
 refine JD Tryz.func48 rfl 15 rfl rfl [(0,.int .i64 x),(1,.int .i64 lo),(2,.int .i64 hi)] rfl hH ?_;clear hH;refine Jd fun _ hK1 _=>(Jb (Jg (Je rfl) rfl (Jf (Ja (hK1 (Jd fun _ hK2 _=>(Jb (Jg (Jc rfl) rfl (Jg (Jc rfl) rfl (Jg (PR.geq rfl rfl) rfl (Jg (Jc rfl) rfl (JW (jd:=10) rfl (fun hg10=>?_) (fun hg10=>?_)))))))))))))
 ·
  try have hg10p:=of_decide_eq_true hg10
  refine JK (Jc rfl) rfl rfl rfl hg10 (JK (Jc rfl) rfl rfl rfl hg10 (JK (PR.leq rfl rfl) rfl rfl rfl hg10 (Jg (JN rfl hg10 rfl) rfl (Jg (Je rfl) rfl (Jf (Ja (hK2 (Jt (Jy rfl (Res.tmp rfl) fun w hH=>?_)))))))));exact ⟨by simp [*],hH⟩
 ·
  try have hg10p:=of_decide_eq_false hg10
  refine JE rfl rfl rfl hg10 (JE rfl rfl rfl hg10 (JE rfl rfl rfl hg10 (Jg (JM rfl hg10 rfl) rfl (Jg (Je rfl) rfl (Jf (Ja (hK2 (Jt (Jy rfl (Res.tmp rfl) fun w hH=>?_)))))))));exact ⟨by simp [*],hH⟩
theorem isMonomial_c {B:World} {H0 H:HP} {L:List SA} {w:World} {qds:Option Addr} {cds:Nat} {ds:List Int} {m:List Int} (hds:Ints H qds ds) (hm:Mono m) (hn:ds.length≤1099511627776) (hH:Hp B H0 H L w):Calls Tryz.prog 94 [.slice qds ds.length cds,.agg (bytesC m).toArray].toArray w fun e w'=>e = .returned (.bool (isMono ds m))∧Hp B H0 H L w':=by
 refine JD Tryz.func94 rfl 27 rfl rfl [(0,.slice qds ds.length cds),(1,.agg (bytesC m).toArray)] rfl hH ?_;have hml:=hm.len;clear hH;refine Jd fun _ hK1 _=>(Jb (Eo rfl rfl rfl fun g3=>(Jg (Je rfl) rfl (Jf (Ja (hK1 (Jd fun _ hK2 _=>(Jd fun _ hK3 _=>(Jb (Jg (Jl rfl At.z (by simpa [*] using ag87)) rfl (Jg (Jc rfl) rfl (Jf (Ja (hK3 (Jx (JP (σ:=Nat) (fun (k:Nat)=>[(9,.int .i64 (k:Int))]) (fun (k:Nat)=>H) (fun (k:Nat)=>obj g3 (.cells (bytesC m).toArray 87 (0,0))::L) (fun (k:Nat)=>k≤8∧∀j,j<k→m.getD j 0≤most ds j) (fun (k:Nat)=>8 - k) 0 ⟨by omega,fun j hj=>by omega⟩ ⟨rfl,trivial⟩ rfl rfl ?_))))))))))))))));rintro k hI _ hAg0;obtain ⟨hk,hm9⟩:=hI;have hml:=hm.len;refine Jd fun _ hK4 _=>(Jb (Jg (JZ rfl rfl) rfl (Jf (Ja (hK4 (Jd fun _ hK5 _=>(Jp rfl (fun hc10=>?_) (fun hc10=>?_))))))))
 ·
  refine Jo (Ja (hK5 (Jd fun _ hK6 _=>(Jx (Jd fun _ hK7 _=>(Jb (Jg (Jc rfl) rfl (Jg (PR.index u87 sz5 pl5 rfl rfl rfl (by omega) (by first | exact bytesC_get (by simp [*];omega) | exact intsC_get (by simp [*];omega))) rfl (Jg (Je rfl) rfl (Jg (Je rfl) rfl (Jf (Ja (hK7 (Jd fun _ hK8 _=>(Jb (Jg (Je rfl) rfl ?_))))))))))))))));refine Jf (Ja (hK8 (EL (σ:=Unit) (fun (_:Unit)=>[(7,.int .u8 (most ds k))]) (fun (_:Unit)=>H) (fun (_:Unit)=>obj g3 (.cells (bytesC m).toArray 87 (0,0))::L) (fun (_:Unit)=>True) ?_ ?_)))
  ·
   intro _ hMt1;refine Jd fun _ hK9 _=>(Jb (Jg (Jc rfl) rfl (Jg (Jc rfl) rfl (Jg (Jr u24 rfl rfl) rfl (Jg (JZ rfl rfl) rfl (Jf (Ja (hK9 (Jp rfl (fun hc16=>?_) (fun hc16=>?_))))))))))
   ·
    refine Jd fun _ hK10 _=>(Jb (Jg (Je rfl) rfl (Jf (Ja (hK10 (Jd fun _ hK11 _=>(Jb (Jg (Jc rfl) rfl (Jg (Jc rfl) rfl (Jg (Eg u24 sz2 rfl rfl rfl (by omega) hds.sm) rfl (Jg (JX rfl (hds _ (by omega)) pl2) rfl (Jg (ER rfl rfl (by decide) rfl) rfl (Jg (En rfl rfl) rfl (Jf (Ja (hK11 ?_))))))))))))))));refine Jp rfl (fun hc22=>?_) (fun hc22=>?_)
    ·
     refine Jb (Jg (Je rfl) rfl (Jf (Ja ?_)));exact hMt1 () trivial 12 rfl rfl ⟨(vi8 (by unfold most;rw [if_pos (by omega),if_pos hc22])),trivial⟩ rfl rfl
    ·
     refine Jo (Ja ?_);exact hMt1 () trivial 11 rfl rfl ⟨(vi8 (by unfold most;rw [if_pos (by omega),if_neg hc22])),trivial⟩ rfl rfl
   ·
    refine Jo (Ja ?_);exact hMt1 () trivial 4 rfl rfl ⟨(vi8 (by unfold most;rw [if_neg (by omega)])),trivial⟩ rfl rfl
  ·
   rintro _ _;refine Jd fun _ hK12 _=>(Jb (Jg (Jc rfl) rfl (Jg (Jc rfl) rfl (Jg (Eq rfl rfl) rfl (Jf (Ja (hK12 (Jp rfl (fun hc25=>?_) (fun hc25=>?_)))))))))
   ·
    refine Jd fun _ hK13 _=>(Jb (Jg (Je rfl) rfl (Jf (Ja (hK13 (Jt (JU (Jn (Jn (JU (Jn (Jy rfl (Res.tmp rfl) fun w hH=>?_))))))))))));replace hH:=hH.tail;exact ⟨by rw [isMono_false (k:=k) (by omega) (by omega)],hH⟩
   ·
    refine Jo (JJ (Ja (hK6 (Jb (Jg (JF rfl rfl (by first | exact nw _ (by omega) | rfl)) rfl (Jg (Jc rfl) rfl (Jf (Ja ?_))))))));exact hAg0 (k+1) ⟨by omega,fun j hj=>by rcases Nat.lt_or_ge j k with h | h;exact hm9 j h;obtain rfl:j=k:=(by omega);omega⟩ (by omega) 13 rfl rfl ⟨rfl,trivial⟩ rfl rfl
 ·
  refine JR (Jw (Jw (JY (Ja (hK2 (Jd fun _ hK14 _=>(Jb (Jg (Je rfl) rfl (Jf (Ja (hK14 (Jt (Jy rfl (Res.tmp rfl) fun w hH=>?_)))))))))))));replace hH:=hH.tail;exact ⟨by rw [isMono_true (fun j hj=>hm9 j (by omega))],hH⟩
def isDeg (ds:List Int):Bool:=decide (ds.length≤8) && ds.all fun x=>decide (1≤x) && decide (x≤12)
theorem all_false {ds:List Int} {p:Int→Bool} {k:Nat} (hk:k<ds.length) (h:p (ds.getD k 0)=false):ds.all p=false:=by
 rw [List.all_eq_false];exact ⟨ds.getD k 0,by rw [List.getD_eq_getElem?_getD,List.getElem?_eq_getElem hk];exact List.getElem_mem hk,by rw [h];simp⟩
theorem all_true {ds:List Int} {p:Int→Bool} (h : ∀j,j<ds.length→p (ds.getD j 0)=true):ds.all p=true:=by
 rw [List.all_eq_true];intro x hx;obtain ⟨j,hj,rfl⟩:=List.mem_iff_getElem.1 hx;have:=h j hj
 rwa [List.getD_eq_getElem?_getD,List.getElem?_eq_getElem hj] at this
theorem isDeg_false {ds:List Int} {k:Nat} (hk:k<ds.length) (h:(decide (1≤ds.getD k 0) && decide (ds.getD k 0≤12))=false):isDeg ds=false:=by
 unfold isDeg;rw [all_false hk h,Bool.and_false]
theorem isDeg_true {ds:List Int} (h : ∀j,j<ds.length→(decide (1≤ds.getD j 0) && decide (ds.getD j 0≤12))=true):isDeg ds=decide ((ds.length:Int)≤8):=by
 unfold isDeg;rw [all_true h,Bool.and_true];exact decide_eq_decide.2 (by omega)
theorem upto {p:Nat→Prop} {k:Nat} (h : ∀j,j<k→p j) (hk:p k) : ∀j,j<k+1→p j:=fun j hj=>by
 rcases Nat.lt_or_ge j k with h1 | h1
 ·exact h j h1
 ·obtain rfl:j=k:=by omega
  exact hk
theorem l01In_c {B:World} {H0 H:HP} {L:List SA} {w:World} {x:Int} {lo:Int} {hi:Int} (hH:Hp B H0 H L w):Calls Tryz.prog 53 [.int .i64 x,.int .i64 lo,.int .i64 hi].toArray w fun e w'=>e = .returned (.bool (decide (lo≤x) && decide (x≤hi)))∧Hp B H0 H L w':=by
 refine JD Tryz.func53 rfl 15 rfl rfl [(0,.int .i64 x),(1,.int .i64 lo),(2,.int .i64 hi)] rfl hH ?_;clear hH;refine Jd fun _ hK1 _=>(Jb (Jg (Je rfl) rfl (Jf (Ja (hK1 (Jd fun _ hK2 _=>(Jb (Jg (Jc rfl) rfl (Jg (Jc rfl) rfl (Jg (PR.geq rfl rfl) rfl (Jg (Jc rfl) rfl (JW (jd:=10) rfl (fun hg10=>?_) (fun hg10=>?_)))))))))))))
 ·
  try have hg10p:=of_decide_eq_true hg10
  refine JK (Jc rfl) rfl rfl rfl hg10 (JK (Jc rfl) rfl rfl rfl hg10 (JK (PR.leq rfl rfl) rfl rfl rfl hg10 (Jg (JN rfl hg10 rfl) rfl (Jg (Je rfl) rfl (Jf (Ja (hK2 (Jt (Jy rfl (Res.tmp rfl) fun w hH=>?_)))))))));exact ⟨by simp [*],hH⟩
 ·
  try have hg10p:=of_decide_eq_false hg10
  refine JE rfl rfl rfl hg10 (JE rfl rfl rfl hg10 (JE rfl rfl rfl hg10 (Jg (JM rfl hg10 rfl) rfl (Jg (Je rfl) rfl (Jf (Ja (hK2 (Jt (Jy rfl (Res.tmp rfl) fun w hH=>?_)))))))));exact ⟨by simp [*],hH⟩
theorem l01Degrees_c {B:World} {H0 H:HP} {L:List SA} {w:World} {qds:Option Addr} {cds:Nat} {ds:List Int} (hds:Ints H qds ds) (hn:ds.length≤1099511627776) (hH:Hp B H0 H L w):Calls Tryz.prog 40 [.slice qds ds.length cds].toArray w fun e w'=>e = .returned (.bool (isDeg ds))∧Hp B H0 H L w':=by
 refine JD Tryz.func40 rfl 19 rfl rfl [(0,.slice qds ds.length cds)] rfl hH ?_;clear hH;refine Jd fun _ hK1 _=>(Jb (Jg (Je rfl) rfl (Jf (Ja (hK1 (Jd fun _ hK2 _=>(Jd fun _ hK3 _=>(Jb (Jg (Je rfl) rfl (Jf (Ja (hK3 (Jx (JP (σ:=Nat) (fun (k:Nat)=>[(3,.int .i64 (k:Int))]) (fun (k:Nat)=>H) (fun (k:Nat)=>L) (fun (k:Nat)=>k≤ds.length∧∀j,j<k→(decide (1≤ds.getD j 0) && decide (ds.getD j 0≤12))=true) (fun (k:Nat)=>ds.length - k) 0 ⟨by omega,fun j hj=>by omega⟩ ⟨rfl,trivial⟩ rfl rfl ?_))))))))))))));rintro k hI _ hAg0;have hk:=hI.1;refine Jd fun _ hK4 _=>(Jd fun _ hK5 _=>(Jb (Jg (Jc rfl) rfl (Jg (Jc rfl) rfl (Jg (Jr u24 rfl rfl) rfl (Jg (JZ rfl rfl) rfl (Jf (Ja (hK5 (Jp rfl (fun hc7=>?_) (fun hc7=>?_)))))))))))
 ·
  refine Jo (Ja (hK4 (Jd fun _ hK6 _=>(Jx (Jd fun _ hK7 _=>(Jb (Jg (Jc rfl) rfl (Jg (Jc rfl) rfl (Jg (Eg u24 sz2 rfl rfl rfl (by omega) hds.sm) rfl (Jg (JX rfl (hds _ (by omega)) pl2) rfl (Jz fn53 rfl rfl fun w hH=>(l01In_c hH).mono ?_)))))))))));rintro _ w ⟨rfl,hH⟩;refine ⟨_,rfl,fun a hF=>JL hF hH ?_⟩;refine Jg (Er rfl) rfl (Jf (Ja (hK7 (Ek rfl (fun hc=>?_) (fun hc=>?_)))))
  ·
   refine Jd fun _ hK8 _=>(Jb (Jg (Je rfl) rfl (Jf (Ja (hK8 (Jt (JU (Jn (Jn (JU (Jn (Jy rfl (Res.tmp rfl) fun w hH=>?_))))))))))));exact ⟨rb (isDeg_false (k:=k) (by omega) (nott hc)).symm,hH⟩
  ·
   refine Jo (JJ (Ja (hK6 (Jb (Jg (Jc rfl) rfl (Jg (JF rfl rfl (by first | exact nw _ (by omega) | rfl)) rfl (Jg (Je rfl) rfl (Jf (Ja ?_)))))))));exact hAg0 (k+1) ⟨by omega,upto hI.2 (notf hc)⟩ (by omega) 14 rfl rfl ⟨rfl,trivial⟩ rfl rfl
 ·
  refine JR (Jw (Jw (JY (Ja (hK2 (Jd fun _ hK9 _=>(Jb (Jg (Jc rfl) rfl (Jg (Jr u24 rfl rfl) rfl (Jg (PR.leq rfl rfl) rfl (Jg (Je rfl) rfl (Jf (Ja (hK9 (Jt (Jy rfl (Res.tmp rfl) fun w hH=>?_))))))))))))))));exact ⟨rb (isDeg_true (fun j hj=>hI.2 j (by omega))).symm,hH⟩
theorem l01Mono_c {B:World} {H0 H:HP} {L:List SA} {w:World} {qds:Option Addr} {cds:Nat} {ds:List Int} {m:List Int} (hds:Ints H qds ds) (hm:Mono m) (hn:ds.length≤1099511627776) (hp : ∀j,j<ds.length→0≤ds.getD j 0) (hH:Hp B H0 H L w):Calls Tryz.prog 104 [.slice qds ds.length cds,.agg (bytesC m).toArray].toArray w fun e w'=>e = .returned (.bool (isMono ds m))∧Hp B H0 H L w':=by
 refine JD Tryz.func104 rfl 38 rfl rfl [(0,.slice qds ds.length cds),(1,.agg (bytesC m).toArray)] rfl hH ?_;have hml:=hm.len;clear hH;refine Jd fun _ hK1 _=>(Jb (Eo rfl rfl rfl fun g3=>(Jg (Je rfl) rfl (Jf (Ja (hK1 (Jd fun _ hK2 _=>(Jd fun _ hK3 _=>(Jb (Jg (Je rfl) rfl (Jf (Ja (hK3 (Jx (JP (σ:=Nat) (fun (k:Nat)=>[(5,.int .i64 (k:Int))]) (fun (k:Nat)=>H) (fun (k:Nat)=>obj g3 (.cells (bytesC m).toArray 87 (0,0))::L) (fun (k:Nat)=>k≤8∧∀j,j<k→m.getD j 0≤most ds j) (fun (k:Nat)=>8 - k) 0 ⟨by omega,fun j hj=>by omega⟩ ⟨rfl,trivial⟩ rfl rfl ?_)))))))))))))));rintro k hI _ hAg0;have hk:=hI.1;refine Jd fun _ hK4 _=>(Jd fun _ hK5 _=>(Jb (Jg (Jc rfl) rfl (Jg (JZ rfl rfl) rfl (Jf (Ja (hK5 (Jp rfl (fun hc7=>?_) (fun hc7=>?_)))))))))
 ·
  refine Jo (Ja (hK4 (Jd fun _ hK6 _=>(Jx (Jx (Jd fun _ hK7 _=>(Jb (Jg (Jc rfl) rfl (Jg (Jc rfl) rfl (Jg (Jr u24 rfl rfl) rfl (Jg (PR.geq rfl rfl) rfl (Jg (Je rfl) rfl (Jf (Ja (hK7 (Jp rfl (fun h10=>?_) (fun h10=>?_)))))))))))))))))
  ·
   refine Jd fun _ hK8 _=>(Jb (Jg (Jc rfl) rfl (Jg (Ea u87 sz5 rfl rfl rfl (by omega)) rfl (Jg (Jv rfl At.z (by first | exact bytesC_get (by simp [*];omega) | exact intsC_get (by simp [*];omega)) pl5) rfl (Jg (Ew rfl rfl) rfl (Jf (Ja (hK8 (Jp rfl (fun h18=>?_) (fun h18=>?_))))))))))
   ·
    refine Jd fun _ hK9 _=>(Jb (Jg (Je rfl) rfl (Jf (Ja (hK9 (Jt (JU (JU (Jn (Jn (JU (Jn (Jy rfl (Res.tmp rfl) fun w hH=>?_)))))))))))));replace hH:=hH.tail;exact ⟨rb (isMono_false (k:=k) (by omega) (by rw [most_ge h10];have:=(hm.bd k).1;omega)).symm,hH⟩
   ·
    refine Jo (JJ (JJ (Ja (hK6 (Jb (Jg (Jc rfl) rfl (Jg (JF rfl rfl (by first | exact nw _ (by omega) | rfl)) rfl (Jg (Je rfl) rfl (Jf (Ja ?_))))))))));exact hAg0 (k+1) ⟨by omega,upto hI.2 (by rw [most_ge h10];omega)⟩ (by omega) 15 rfl rfl ⟨rfl,trivial⟩ rfl rfl
  ·
   refine Jd fun _ hK10 _=>(Jb (Jg (Jc rfl) rfl (Jg (Ea u87 sz5 rfl rfl rfl (by omega)) rfl (Jg (Jv rfl At.z (by first | exact bytesC_get (by simp [*];omega) | exact intsC_get (by simp [*];omega)) pl5) rfl (Jg (Eq rfl rfl) rfl (Jg (Jc rfl) rfl (JW (jd:=24) rfl (fun h24=>?_) (fun h24=>?_))))))))
   ·
    try have h24p:=of_decide_eq_true h24
    refine JE rfl rfl rfl h24 (JE rfl rfl rfl h24 (JE rfl rfl rfl h24 (JE rfl rfl rfl h24 (JE rfl rfl rfl h24 (JE rfl rfl rfl h24 (JE rfl rfl rfl h24 (EN rfl rfl rfl (EN rfl rfl rfl (EN rfl rfl rfl (EN rfl rfl rfl (JE rfl rfl rfl h24 (Jg (JN rfl h24 rfl) rfl (Jg (Je rfl) rfl (Jf ?_))))))))))))));refine Ja (hK10 (Ep rfl (Jd fun _ hK11 _=>(Jb (Jg (Je rfl) rfl (Jf (Ja (hK11 (Jt (JU (JU (Jn (Jn (JU (Jn (Jy rfl (Res.tmp rfl) fun w hH=>?_))))))))))))))));replace hH:=hH.tail;exact ⟨rb (isMono_false (k:=k) (by omega) (by have:most ds k≤20:=(by unfold most;split <;> (try split) <;> omega);omega)).symm,hH⟩
   ·
    try have h24p:=of_decide_eq_false h24
    refine JK (Jc rfl) rfl rfl rfl h24 (JK (Jc rfl) rfl rfl rfl h24 (JK (Eg u24 sz2 rfl rfl rfl (by omega) hds.sm) rfl rfl rfl h24 (JK (JX rfl (hds _ (by omega)) pl2) rfl rfl rfl h24 (JK (ER rfl rfl (by decide) rfl) rfl rfl rfl h24 (JK (Ew rfl rfl) rfl rfl rfl h24 (JK (Jc rfl) rfl rfl rfl h24 (JW (jd:=31) rfl (fun h31=>?_) (fun h31=>?_))))))))
    ·
     try have h31p:=of_decide_eq_true h31
     refine JK (Jc rfl) rfl rfl rfl h31 (JK (Ea u87 sz5 rfl rfl rfl (by omega)) rfl rfl rfl h31 (JK (Jv rfl At.z (by first | exact bytesC_get (by simp [*];omega) | exact intsC_get (by simp [*];omega)) pl5) rfl rfl rfl h31 (JK (Eq rfl rfl) rfl rfl rfl h31 (JK (JN rfl h31 rfl) rfl rfl rfl h24 (Jg (JM rfl h24 rfl) rfl (Jg (Je rfl) rfl (Jf (Ja (hK10 (Jp rfl (fun h19=>?_) (fun h19=>?_)))))))))))
     ·
      refine Jd fun _ hK12 _=>(Jb (Jg (Je rfl) rfl (Jf (Ja (hK12 (Jt (JU (JU (Jn (Jn (JU (Jn (Jy rfl (Res.tmp rfl) fun w hH=>?_)))))))))))));replace hH:=hH.tail;exact ⟨rb (isMono_false (k:=k) (by omega) (by rw [most_odd h10 h31p (hp k (by omega))];omega)).symm,hH⟩
     ·
      refine Jo (JJ (JJ (Ja (hK6 (Jb (Jg (Jc rfl) rfl (Jg (JF rfl rfl (by first | exact nw _ (by omega) | rfl)) rfl (Jg (Je rfl) rfl (Jf (Ja ?_))))))))));exact hAg0 (k+1) ⟨by omega,upto hI.2 (by rw [most_odd h10 h31p (hp k (by omega))];omega)⟩ (by omega) 30 rfl rfl ⟨rfl,trivial⟩ rfl rfl
    ·
     try have h31p:=of_decide_eq_false h31
     refine JE rfl rfl rfl h31 (JE rfl rfl rfl h31 (JE rfl rfl rfl h31 (JE rfl rfl rfl h31 (JK (JM rfl h31 rfl) rfl rfl rfl h24 (Jg (JM rfl h24 rfl) rfl (Jg (Je rfl) rfl (Jf (Ja (hK10 (Ey rfl (Jo (JJ (JJ (Ja (hK6 (Jb ?_))))))))))))))));refine Jg (Jc rfl) rfl (Jg (JF rfl rfl (by first | exact nw _ (by omega) | rfl)) rfl (Jg (Je rfl) rfl (Jf (Ja ?_))));exact hAg0 (k+1) ⟨by omega,upto hI.2 (by rw [most_even h10 h31p];omega)⟩ (by omega) 30 rfl rfl ⟨rfl,trivial⟩ rfl rfl
 ·
  refine JR (Jw (Jw (JY (Ja (hK2 (Jd fun _ hK13 _=>(Jb (Jg (Je rfl) rfl (Jf (Ja (hK13 (Jt (Jy rfl (Res.tmp rfl) fun w hH=>?_)))))))))))));replace hH:=hH.tail;exact ⟨rb (isMono_true (fun j hj=>hI.2 j (by omega))).symm,hH⟩
theorem fn121:Fn Tryz.prog 121:=⟨_,Tryz.func121,by kernel_rfl,rfl⟩
theorem fn48:Fn Tryz.prog 48:=⟨_,Tryz.func48,by kernel_rfl,rfl⟩
theorem fn80:Fn Tryz.prog 80:=⟨_,Tryz.func80,by kernel_rfl,rfl⟩
theorem fn81:Fn Tryz.prog 81:=⟨_,Tryz.func81,by kernel_rfl,rfl⟩
theorem list_eq_of {xs ys:List Int} (hl:(xs.length:Int)=ys.length) (h : ∀j,j<xs.length→xs.getD j 0=ys.getD j 0):xs=ys:=by
 apply List.ext_getElem (by omega);intro j h1 h2;have:=h j h1
 rwa [List.getD_eq_getElem?_getD,List.getD_eq_getElem?_getD,List.getElem?_eq_getElem h1,List.getElem?_eq_getElem h2] at this
def idxOf (xs:List Int) (p:Int→Bool):Int:=if xs.any p then (xs.findIdx p:Int) else -1
theorem idxOf_hit {xs:List Int} {p:Int→Bool} {k:Nat} (hk:k<xs.length) (h : ∀j,j<k→p (xs.getD j 0)=false) (hp:p (xs.getD k 0)=true):idxOf xs p=k:=by
 have hg : ∀j,(hj:j<xs.length)→xs[j]=xs.getD j 0:=fun j hj=>by rw [List.getD_eq_getElem?_getD,List.getElem?_eq_getElem hj];rfl
 unfold idxOf;have ha:xs.any p=true:=List.any_eq_true.2 ⟨xs[k],List.getElem_mem hk,by rw [hg];exact hp⟩;rw [if_pos ha]
 have:xs.findIdx p=k:=by
  rw [List.findIdx_eq hk];exact ⟨by rw [hg];exact hp,fun j hj=>by rw [hg];exact h j hj⟩
 rw [this]
theorem idxOf_miss {xs:List Int} {p:Int→Bool} (h : ∀j,j<xs.length→p (xs.getD j 0)=false):idxOf xs p = -1:=by
 unfold idxOf;rw [if_neg];intro ha;obtain ⟨x,hx,hp⟩:=List.any_eq_true.1 ha;obtain ⟨j,hj,rfl⟩:=List.mem_iff_getElem.1 hx;have:=h j hj;rw [List.getD_eq_getElem?_getD,List.getElem?_eq_getElem hj] at this;rw [show (some xs[j]).getD 0=xs[j] from rfl,hp] at this
 cases this
theorem idxOf_ge (xs:List Int) (p:Int→Bool):decide (0≤idxOf xs p)=xs.any p:=by
 unfold idxOf
 by_cases h:xs.any p=true
 ·rw [if_pos h,h];exact decide_eq_true (by omega)
 ·rw [if_neg h]
  have:xs.any p=false:=by simpa using h
  rw [this]
  rfl
theorem isDeg_any {ds:List Int} (h:(ds.length:Int)≤8):(!(ds.any fun x=>!(decide (1≤x) && decide (x≤12))))=isDeg ds:=by
 unfold isDeg;rw [decide_eq_true (by omega),Bool.true_and,List.all_eq_not_any_not]
theorem IndexFuncI_c {B:World} {H0 H:HP} {L:List SA} {w:World} {qxs:Option Addr} {cxs:Nat} {xs:List Int} {gp:Nat} {capp:Array Value} {p:Int→Bool} (hxs:Ints H qxs xs) (hgp:Fn Tryz.prog gp) (hp : ∀(x:Int) (w:World),Hp B H0 H L w→Calls Tryz.prog gp (#[]++[.int .i64 x].toArray++capp) w fun e w'=>e = .returned (.bool (p x))∧Hp B H0 H L w') (hn:xs.length≤1099511627776) (hH:Hp B H0 H L w):Calls Tryz.prog 121 [.slice qxs xs.length cxs,.func (.func gp) #[] capp].toArray w fun e w'=>e = .returned (.int .i64 (idxOf xs p))∧Hp B H0 H L w':=by
 refine JD Tryz.func121 rfl 19 rfl rfl [(0,.slice qxs xs.length cxs),(1,.func (.func gp) #[] capp)] rfl hH ?_;clear hH;refine Jd fun _ hK1 _=>(Jb (Jg (Je rfl) rfl (Jf (Ja (hK1 (Jd fun _ hK2 _=>(Jd fun _ hK3 _=>(Jb (Jg (Jc rfl) rfl (Jg (Jr u24 rfl rfl) rfl (Jg (Jc rfl) rfl (Jf (Ja (hK3 (Jx (JP (σ:=Nat) (fun (k:Nat)=>[(8,.int .i64 (k:Int))]) (fun (k:Nat)=>H) (fun (k:Nat)=>L) (fun (k:Nat)=>k≤xs.length∧∀j,j<k→p (xs.getD j 0)=false) (fun (k:Nat)=>xs.length - k) 0 ⟨by omega,fun j hj=>by omega⟩ ⟨rfl,trivial⟩ rfl rfl ?_))))))))))))))));rintro k hI _ hAg0;have hk:=hI.1;refine Jd fun _ hK4 _=>(Jb (Jg (JZ rfl rfl) rfl (Jf (Ja (hK4 (Jd fun _ hK5 _=>(Jp rfl (fun hc9=>?_) (fun hc9=>?_))))))))
 ·
  refine Jo (Ja (hK5 (Jd fun _ hK6 _=>(Jx (Jd fun _ hK7 _=>(Jb (Jg (Jc rfl) rfl (Jg (Je rfl) rfl (Jf (Ja (hK7 (Jd fun _ hK8 _=>(Jb (Jg (Jc rfl) rfl (Jg (Jc rfl) rfl (Jg (Jc rfl) rfl ?_))))))))))))))));refine Jg (Eg u24 sz2 rfl rfl rfl (by omega) hxs.sm) rfl (Jg (JX rfl (hxs _ (by omega)) pl2) rfl (J.callV hgp rfl rfl rfl fun w hH=>(hp _ w hH).mono ?_));rintro _ w ⟨rfl,hH⟩;refine ⟨_,rfl,fun a hF=>JL hF hH ?_⟩;refine Jf (Ja (hK8 (Ek rfl (fun h16=>?_) (fun h16=>?_))))
  ·
   refine Jd fun _ hK9 _=>(Jb (Jg (Jc rfl) rfl (Jg (Je rfl) rfl (Jf (Ja (hK9 (Jt (JU (Jn (Jn (JU (Jn (Jy rfl (Res.tmp rfl) fun w hH=>?_)))))))))))));exact ⟨ri (idxOf_hit (by omega) hI.2 h16).symm,hH⟩
  ·
   refine Jo (JJ (Ja (hK6 (Jb (Jg (JF rfl rfl (by first | exact nw _ (by omega) | rfl)) rfl (Jg (Jc rfl) rfl (Jf (Ja ?_))))))));exact hAg0 (k+1) ⟨by omega,upto hI.2 h16⟩ (by omega) 12 rfl rfl ⟨rfl,trivial⟩ rfl rfl
 ·
  refine JR (Jw (Jw (JY (Ja (hK2 (Jd fun _ hK10 _=>(Jb (Jg (Je rfl) rfl (Jf (Ja (hK10 (Jt (Jy rfl (Res.tmp rfl) fun w hH=>?_)))))))))))));exact ⟨ri (idxOf_miss (fun j hj=>hI.2 j (by omega))).symm,hH⟩
theorem ContainsFuncI_c {B:World} {H0 H:HP} {L:List SA} {w:World} {qxs:Option Addr} {cxs:Nat} {xs:List Int} {gp:Nat} {capp:Array Value} {p:Int→Bool} (hxs:Ints H qxs xs) (hgp:Fn Tryz.prog gp) (hp : ∀(x:Int) (w:World),Hp B H0 H L w→Calls Tryz.prog gp (#[]++[.int .i64 x].toArray++capp) w fun e w'=>e = .returned (.bool (p x))∧Hp B H0 H L w') (hn:xs.length≤1099511627776) (hH:Hp B H0 H L w):Calls Tryz.prog 80 [.slice qxs xs.length cxs,.func (.func gp) #[] capp].toArray w fun e w'=>e = .returned (.bool (xs.any p))∧Hp B H0 H L w':=by
 refine JD Tryz.func80 rfl 9 rfl rfl [(0,.slice qxs xs.length cxs),(1,.func (.func gp) #[] capp)] rfl hH ?_;clear hH;refine Jd fun _ hK1 _=>(Jb (Jg (Je rfl) rfl (Jf (Ja (hK1 (Jd fun _ hK2 _=>(Jb (Jg (Jc rfl) rfl (Jg (Jc rfl) rfl (Jz fn121 rfl rfl fun w hH=>(IndexFuncI_c hxs hgp hp (by omega) hH).mono ?_))))))))));rintro _ w ⟨rfl,hH⟩;refine ⟨_,rfl,fun a hF=>JL hF hH ?_⟩;refine Jg (PR.geq rfl rfl) rfl (Jg (Je rfl) rfl (Jf (Ja (hK2 (Jt (Jy rfl (Res.tmp rfl) fun w hH=>?_))))));exact ⟨rb (idxOf_ge xs p),hH⟩
theorem AreDegrees1_c {B:World} {H0 H:HP} {L:List SA} {w:World} {x:Int} (hH:Hp B H0 H L w):Calls Tryz.prog 81 [.int .i64 x].toArray w fun e w'=>e = .returned (.bool (!(decide (1≤x) && decide (x≤12))))∧Hp B H0 H L w':=by
 refine JD Tryz.func81 rfl 6 rfl rfl [(0,.int .i64 x)] rfl hH ?_;clear hH;refine Jd fun _ hK1 _=>(Jb (Jg (Je rfl) rfl (Jf (Ja (hK1 (Jd fun _ hK2 _=>(Jb (Jg (Jc rfl) rfl (Jz fn48 rfl rfl fun w hH=>(within_c hH).mono ?_)))))))));rintro _ w ⟨rfl,hH⟩;refine ⟨_,rfl,fun a hF=>JL hF hH ?_⟩;refine Jg (Er rfl) rfl (Jg (Je rfl) rfl (Jf (Ja (hK2 (Jt (Jy rfl (Res.tmp rfl) fun w hH=>?_))))));exact ⟨rfl,hH⟩
theorem AreDegrees_c {B:World} {H0 H:HP} {L:List SA} {w:World} {qds:Option Addr} {cds:Nat} {ds:List Int} (hds:Ints H qds ds) (hn:ds.length≤1099511627776) (hH:Hp B H0 H L w):Calls Tryz.prog 38 [.slice qds ds.length cds].toArray w fun e w'=>e = .returned (.bool (isDeg ds))∧Hp B H0 H L w':=by
 refine JD Tryz.func38 rfl 11 rfl rfl [(0,.slice qds ds.length cds)] rfl hH ?_;clear hH;refine Jd fun _ hK1 _=>(Jb (Jg (Je rfl) rfl (Jf (Ja (hK1 (Jd fun _ hK2 _=>(Jb (Jg (Jc rfl) rfl (Jg (Jr u24 rfl rfl) rfl (Jg (PR.leq rfl rfl) rfl (Jg (Jc rfl) rfl (JW (jd:=6) rfl (fun hg6=>?_) (fun hg6=>?_)))))))))))))
 ·
  try have hg6p:=of_decide_eq_true hg6
  refine JK (Jc rfl) rfl rfl rfl hg6 (Et fn80 rfl rfl hg6 rfl rfl fun w hH=>(ContainsFuncI_c hds fn81 (fun x w hH=>by simpa only [Array.append_empty,Array.empty_append] using AreDegrees1_c hH) (by omega) hH).mono ?_);rintro _ w ⟨rfl,hH⟩;refine ⟨_,rfl,fun a hF=>JL hF hH ?_⟩;refine JK (Er rfl) rfl rfl rfl hg6 (Jg (JN rfl hg6 rfl) rfl (Jg (Je rfl) rfl (Jf (Ja (hK2 (Jt (Jy rfl (Res.tmp rfl) fun w hH=>?_)))))));exact ⟨rb (isDeg_any hg6p),hH⟩
 ·
  try have hg6p:=of_decide_eq_false hg6
  refine JE rfl rfl rfl hg6 (JE rfl rfl rfl hg6 (JE rfl rfl rfl hg6 (Jg (JM rfl hg6 rfl) rfl (Jg (Je rfl) rfl (Jf (Ja (hK2 (Jt (Jy rfl (Res.tmp rfl) fun w hH=>?_)))))))));exact ⟨rb (by unfold isDeg;rw [decide_eq_false (by omega)];rfl),hH⟩
theorem u127:Tryz.prog.underlying 127=some (TypeDesc.array 8 3):=by kernel_rfl
theorem u3:Tryz.prog.underlying 3=some (TypeDesc.int .i64):=by kernel_rfl
theorem sz127:Size Tryz.prog 127 8:=by unfold Size;kernel_rfl
theorem sz3:Size Tryz.prog 3 1:=by unfold Size;kernel_rfl
theorem ze127:Zero Tryz.prog 127 [.int .i64 0,.int .i64 0,.int .i64 0,.int .i64 0,.int .i64 0,.int .i64 0,.int .i64 0,.int .i64 0]:=by unfold Zero;kernel_rfl
theorem bz127 : ∀w,(Instr.build 127 #[]).run Tryz.prog w = .ok (.agg [.int .i64 0,.int .i64 0,.int .i64 0,.int .i64 0,.int .i64 0,.int .i64 0,.int .i64 0,.int .i64 0].toArray) w:=fun _=>by kernel_rfl
theorem pl3:Plain Tryz.prog 3:=⟨_,u3,rfl⟩
theorem ag127:Agg Tryz.prog 127 8:=⟨_,u127,rfl,by kernel_rfl⟩
theorem foll0:Tryz.prog.follows .mixedOrders=true:=by kernel_rfl
def wsum (ds m:List Int):Nat→Int
 | 0=>0
 | k+1=>wsum ds m k+ds.getD k 0 * m.getD k 0
theorem mul_bd {a b A B:Int} (h1:0≤a∧a≤A) (h2:0≤b∧b≤B):0≤a * b∧a * b≤A * B:=
 ⟨Int.mul_nonneg h1.1 h2.1,Int.mul_le_mul h1.2 h2.2 h2.1 (by omega)⟩
theorem wsum_bd {ds m:List Int} {M:Int} (hd : ∀j,0≤ds.getD j 0∧ds.getD j 0≤12) (hm : ∀j,0≤m.getD j 0∧m.getD j 0≤M) : ∀k:Nat,0≤wsum ds m k∧wsum ds m k≤k * (12 * M)
 | 0=>by simp [wsum]
 | k+1=>by
  have h1:=wsum_bd hd hm k
  have h2:=mul_bd (hd k) (hm k)
  have e:((k+1:Nat):Int) * (12 * M)=k * (12 * M)+12 * M:=by rw [Int.natCast_add,Int.add_mul];simp
  rw [e]
  simp only [wsum]
  omega
theorem isDeg_bd {ds:List Int} (h:isDeg ds=true) : ∀j,0≤ds.getD j 0∧ds.getD j 0≤12:=by
 intro j
 rcases Nat.lt_or_ge j ds.length with hj | hj
 ·unfold isDeg at h;rw [Bool.and_eq_true] at h;have:=List.all_eq_true.1 h.2 (ds.getD j 0) (by rw [List.getD_eq_getElem?_getD,List.getElem?_eq_getElem hj];exact List.getElem_mem hj);rw [Bool.and_eq_true,decide_eq_true_eq,decide_eq_true_eq] at this
  omega
 ·rw [List.getD_eq_getElem?_getD,List.getElem?_eq_none hj]
  simp
theorem isDeg_len {ds:List Int} (h:isDeg ds=true):ds.length≤8:=by
 unfold isDeg at h;rw [Bool.and_eq_true,decide_eq_true_eq] at h;exact h.1
def Small (p:List Int):Prop:=∀j,0≤p.getD j 0∧p.getD j 0≤1000000
theorem Mono.small {m:List Int} (h:Mono m):Small m:=fun j=>by have:=h.bd j;omega
theorem powerOf_c {B:World} {H0 H:HP} {L:List SA} {w:World} {m:List Int} (hm:Mono m) (hH:Hp B H0 H L w):Calls Tryz.prog 96 [.agg (bytesC m).toArray].toArray w fun e w'=>e = .returned (.agg (intsC m).toArray)∧Hp B H0 H L w':=by
 refine JD Tryz.func96 rfl 18 rfl rfl [(0,.agg (bytesC m).toArray)] rfl hH ?_;have hml:=hm.len;clear hH;refine Jd fun _ hK1 _=>(Jb (Eo rfl rfl rfl fun g1=>(JG ze127 rfl fun g2=>(Jf (Ja (hK1 (Jd fun _ hK2 _=>(Jb (Jg (JQ bz127) rfl (JG ze127 rfl fun g3=>(Jk rfl rfl (by first | exact bytesC_one _ | exact intsC_one _ | exact Term.c_one _ | simp [Value.oneCell']) (by simpa [*] using sz127) (by simp [*]) At.z (Jf (Ja (hK2 (Jd fun _ hK3 _=>(Jd fun _ hK4 _=>?_))))))))))))))));refine Jb (Jg (Jl rfl (.s (.s .z)) (by simpa [*] using ag87)) rfl (Jg (Jc rfl) rfl (Jf (Ja (hK4 (Jx (JP (σ:=Nat) (fun (k:Nat)=>[(8,.int .i64 (k:Int))]) (fun (k:Nat)=>H) (fun (k:Nat)=>obj g3 (.cells (intsC (m.take k++List.replicate (m.length - k) 0)).toArray 127 (0,0))::obj g2 (.cells (intsC (List.replicate 8 0)).toArray 127 (0,0))::obj g1 (.cells (bytesC m).toArray 87 (0,0))::L) (fun (k:Nat)=>k≤8) (fun (k:Nat)=>8 - k) 0 (by omega) ⟨rfl,trivial⟩ rfl (by rw [hml];rfl) ?_)))))));rintro k hI _ hAg0;have hb:=hm.bd k;refine Jd fun _ hK5 _=>(Jb (Jg (JZ rfl rfl) rfl (Jf (Ja (hK5 (Jd fun _ hK6 _=>(Jp rfl (fun hc9=>?_) (fun hc9=>?_))))))))
 ·
  refine Jo (Ja (hK6 (Jd fun _ hK7 _=>(Jx (Jd fun _ hK8 _=>(Jb (Jg (Jc rfl) rfl (Jg (PR.index u87 sz5 pl5 rfl rfl rfl (by omega) (bytesC_get (by omega))) rfl (Jg (Je rfl) rfl (Jg (Je rfl) rfl (Jf (Ja (hK8 (Jb (Jg (Jc rfl) rfl (Jg (Jc rfl) rfl ?_))))))))))))))));refine Jg (EE u5 u3 rfl (by first | exact nw _ (by omega) | rfl)) rfl (Jg (Ea u127 sz3 rfl rfl rfl (by omega)) rfl (J.storeI rfl rfl sz3 (by simp;omega) At.z (Jf (JJ (Ja (hK7 (Jb (Jg (JF rfl rfl (by first | exact nw _ (by omega) | rfl)) rfl (Jg (Jc rfl) rfl (Jf (Ja ?_)))))))))));exact hAg0 (k+1) (by omega) (by omega) 12 rfl rfl ⟨rfl,trivial⟩ rfl (by rw [← fill_step (by omega)])
 ·
  refine JR (Jw (Jw (JY (Ja (hK3 (Jd fun _ hK9 _=>(Jb (Jg (Jl rfl At.z (by simpa [*] using ag127)) rfl (Jk rfl rfl (by first | exact bytesC_one _ | exact intsC_one _ | exact Term.c_one _ | simp [Value.oneCell']) (by simpa [*] using sz127) (by simp [*]) (.s .z) (Jf (Ja (hK9 (Jt (Jy rfl (Res.agg rfl (.s .z) (by simpa [*] using ag127)) fun w hH=>?_))))))))))))));replace hH:=hH.tail;replace hH:=hH.tail;replace hH:=hH.tail
  obtain rfl:k=m.length:=by omega
  exact ⟨by rw [fill_end],hH⟩
theorem degree_c {B:World} {H0 H:HP} {L:List SA} {w:World} {p:List Int} {qds:Option Addr} {cds:Nat} {ds:List Int} (hp:p.length=8) (hds:Ints H qds ds) (hn:ds.length≤8) (hd : ∀j,0≤ds.getD j 0∧ds.getD j 0≤12) (hs:Small p) (hH:Hp B H0 H L w):Calls Tryz.prog 123 [.agg (intsC p).toArray,.slice qds ds.length cds].toArray w fun e w'=>e = .returned (.int .i64 (wsum ds p ds.length))∧Hp B H0 H L w':=by
 refine JD Tryz.func123 rfl 24 rfl rfl [(0,.agg (intsC p).toArray),(1,.slice qds ds.length cds)] rfl hH ?_;clear hH;refine Jd fun _ hK1 _=>(Jb (Eo rfl rfl rfl fun g2=>(Jg (Je rfl) rfl (Jf (Ja (hK1 (Jd fun _ hK2 _=>(Jb (Jg (Je rfl) rfl (Jf (Ja (hK2 (Jd fun _ hK3 _=>(Jd fun _ hK4 _=>(Jb (Jg (Jc rfl) rfl ?_))))))))))))))));refine Jg (Jr u24 rfl rfl) rfl (Jg (Jc rfl) rfl (Jf (Ja (hK4 (Jx (JP (σ:=Nat) (fun (k:Nat)=>[(10,.int .i64 (k:Int)),(5,.int .i64 (wsum ds p k))]) (fun (k:Nat)=>H) (fun (k:Nat)=>obj g2 (.cells (intsC p).toArray 127 (0,0))::L) (fun (k:Nat)=>k≤ds.length) (fun (k:Nat)=>ds.length - k) 0 (by omega) ⟨rfl,⟨rfl,trivial⟩⟩ rfl rfl ?_))))));rintro k hI _ hAg0;have hk:=hI;have b1:=wsum_bd hd hs k;have b2:=mul_bd (hd k) (hs k);refine Jd fun _ hK5 _=>(Jb (Jg (JZ rfl rfl) rfl (Jf (Ja (hK5 (Jd fun _ hK6 _=>(Jp rfl (fun hc11=>?_) (fun hc11=>?_))))))))
 ·
  refine Jo (Ja (hK6 (Jd fun _ hK7 _=>(Jx (Jd fun _ hK8 _=>(Jb (Jg (Jc rfl) rfl (Jg (Eg u24 sz2 rfl rfl rfl (by omega) hds.sm) rfl (Jg (JX rfl (hds _ (by omega)) pl2) rfl (Jg (Je rfl) rfl (Jg (Je rfl) rfl (Jf (Ja (hK8 (Jb (Jg (Jc rfl) rfl ?_))))))))))))))));refine Jg (Jc rfl) rfl (Jg (Jc rfl) rfl (Jg (Ea u127 sz3 rfl rfl rfl (by omega)) rfl (Jg (Jv rfl At.z (by first | exact bytesC_get (by simp [*];omega) | exact intsC_get (by simp [*];omega)) pl3) rfl (Jg (EZ rfl rfl (by first | exact nw _ (by omega) | rfl)) rfl (Jg (JF rfl rfl (by first | exact nw _ (by omega) | rfl)) rfl (Jg (Je rfl) rfl (Jf (JJ (Ja (hK7 (Jb (Jg (JF rfl rfl (by first | exact nw _ (by omega) | rfl)) rfl (Jg (Jc rfl) rfl (Jf (Ja ?_)))))))))))))));exact hAg0 (k+1) (by omega) (by omega) 18 rfl rfl ⟨rfl,⟨rfl,trivial⟩⟩ rfl rfl
 ·
  refine JR (Jw (Jw (JY (Ja (hK3 (Jd fun _ hK9 _=>(Jb (Jg (Jc rfl) rfl (Jg (Je rfl) rfl (Jf (Ja (hK9 (Jt (Jy rfl (Res.tmp rfl) fun w hH=>?_))))))))))))));replace hH:=hH.tail
  obtain rfl:k=ds.length:=by omega
  exact ⟨rfl,hH⟩
theorem l01Weight_c {B:World} {H0 H:HP} {L:List SA} {w:World} {qds:Option Addr} {cds:Nat} {ds:List Int} {m:List Int} (hds:Ints H qds ds) (hm:Mono m) (hn:ds.length≤8) (hd : ∀j,0≤ds.getD j 0∧ds.getD j 0≤12) (hH:Hp B H0 H L w):Calls Tryz.prog 88 [.slice qds ds.length cds,.agg (bytesC m).toArray].toArray w fun e w'=>e = .returned (.int .i64 (wsum ds m ds.length))∧Hp B H0 H L w':=by
 refine JD Tryz.func88 rfl 25 rfl rfl [(0,.slice qds ds.length cds),(1,.agg (bytesC m).toArray)] rfl hH ?_;have hml:=hm.len;clear hH;refine Jd fun _ hK1 _=>(Jb (Eo rfl rfl rfl fun g3=>(Jg (Je rfl) rfl (Jf (Ja (hK1 (Jd fun _ hK2 _=>(Jb (Jg (Je rfl) rfl (Jf (Ja (hK2 (Jd fun _ hK3 _=>(Jd fun _ hK4 _=>(Jb (Jg (Je rfl) rfl ?_))))))))))))))));refine Jf (Ja (hK4 (Jx (JP (σ:=Nat) (fun (k:Nat)=>[(6,.int .i64 (k:Int)),(5,.int .i64 (wsum ds m k))]) (fun (k:Nat)=>H) (fun (k:Nat)=>obj g3 (.cells (bytesC m).toArray 87 (0,0))::L) (fun (k:Nat)=>k≤ds.length) (fun (k:Nat)=>ds.length - k) 0 (by omega) ⟨rfl,⟨rfl,trivial⟩⟩ rfl rfl ?_))));rintro k hI _ hAg0;have hk:=hI;have b1:=wsum_bd hd hm.small k;have b2:=mul_bd (hd k) (hm.small k);have hb:=hm.bd k;refine Jd fun _ hK5 _=>(Jd fun _ hK6 _=>(Jb (Jg (Jc rfl) rfl (Jg (Jc rfl) rfl (Jg (Jr u24 rfl rfl) rfl (Jg (JZ rfl rfl) rfl (Jf (Ja (hK6 (Jp rfl (fun hc10=>?_) (fun hc10=>?_)))))))))))
 ·
  refine Jo (Ja (hK5 (Jd fun _ hK7 _=>(Jx (ED foll0 (by kernel_rfl) (JH (Jc rfl) rfl (JH (Jc rfl) rfl (JH (Jc rfl) rfl (JH (Eg u24 sz2 rfl rfl rfl (by omega) hds.sm) rfl (JH (JX rfl (hds _ (by omega)) pl2) rfl (JH (Jc rfl) rfl (JH (Ea u87 sz5 rfl rfl rfl (by omega)) rfl (JH (Jv rfl At.z (by first | exact bytesC_get (by simp [*];omega) | exact intsC_get (by simp [*];omega)) pl5) rfl (JH (EE u5 u2 rfl (by first | exact nw _ (by omega) | rfl)) rfl (JH (EZ rfl rfl (by first | exact nw _ (by omega) | rfl)) rfl ?_)))))))))))))));refine JH (JF rfl rfl (by first | exact nw _ (by omega) | rfl)) rfl (JH (Je rfl) rfl (Ej (JJ (Ja (hK7 (Jb (Jg (Jc rfl) rfl (Jg (JF rfl rfl (by first | exact nw _ (by omega) | rfl)) rfl (Jg (Je rfl) rfl (Jf (Ja ?_)))))))))));exact hAg0 (k+1) (by omega) (by omega) 21 rfl rfl ⟨rfl,⟨rfl,trivial⟩⟩ rfl rfl
 ·
  refine JR (Jw (Jw (JY (Ja (hK3 (Jd fun _ hK8 _=>(Jb (Jg (Jc rfl) rfl (Jg (Je rfl) rfl (Jf (Ja (hK8 (Jt (Jy rfl (Res.tmp rfl) fun w hH=>?_))))))))))))));replace hH:=hH.tail
  obtain rfl:k=ds.length:=by omega
  exact ⟨rfl,hH⟩
def cmp (p q:List Int):Int:=match (List.range 8).find? (fun i=>decide (p.getD i 0≠q.getD i 0)) with | some i=>q.getD i 0 - p.getD i 0 | none=>0
def before (a b:List Int):Bool:=decide (cmp a b<0)
theorem range_find {p:Nat→Bool} {k n:Nat} (hk:k<n) (h : ∀j,j<k→p j=false) (hp:p k=true):(List.range n).find? p=some k:=by
 rw [List.find?_eq_some_iff_getElem];exact ⟨hp,k,by simp [hk],by simp,fun j hj=>by simp [h j hj]⟩
theorem range_find_none {p:Nat→Bool} {n:Nat} (h : ∀j,j<n→p j=false):(List.range n).find? p=none:=by
 rw [List.find?_eq_none];intro j hj
 simp [h j (List.mem_range.1 hj)]
theorem cmp_hit {p q:List Int} {k:Nat} (hk:k<8) (h : ∀j,j<k→p.getD j 0=q.getD j 0) (hn:p.getD k 0≠q.getD k 0):cmp p q=q.getD k 0 - p.getD k 0:=by
 unfold cmp;rw [range_find (p:=fun i=>decide (p.getD i 0≠q.getD i 0)) hk (fun j hj=>decide_eq_false (by simpa using h j hj)) (decide_eq_true hn)]
theorem cmp_miss {p q:List Int} (h : ∀j,j<8→p.getD j 0=q.getD j 0):cmp p q=0:=by
 unfold cmp;rw [range_find_none (p:=fun i=>decide (p.getD i 0≠q.getD i 0)) (fun j hj=>decide_eq_false (by simpa using h j hj))]
theorem before_hit {p q:List Int} {k:Nat} (hk:k<8) (h : ∀j,j<k→p.getD j 0=q.getD j 0) (hn:p.getD k 0≠q.getD k 0):before p q=decide (p.getD k 0>q.getD k 0):=by
 unfold before;rw [cmp_hit hk h hn];exact decide_eq_decide.2 (by omega)
theorem before_miss {p q:List Int} (h : ∀j,j<8→p.getD j 0=q.getD j 0):before p q=false:=by
 unfold before;rw [cmp_miss h]
 rfl
def goodAt (ds:List Int) (ts:List Term) (i:Nat):Bool:=
 isMono ds (tm ts i).mono && (decide (1≤(tm ts i).fac) && decide ((tm ts i).fac≤10006)) && (decide (i=0) || before (tm ts (i - 1)).mono (tm ts i).mono)
def isForm (ds:List Int) (ts:List Term):Bool:=decide (ts.length≤400) && (List.range ts.length).all (goodAt ds ts)
theorem isForm_long {ds:List Int} {ts:List Term} (h : ¬(ts.length:Int)≤400):isForm ds ts=false:=by
 unfold isForm;rw [decide_eq_false (by omega)]
 rfl
theorem isForm_bad {ds:List Int} {ts:List Term} {k:Nat} (hk:k<ts.length) (h:goodAt ds ts k=false):isForm ds ts=false:=by
 unfold isForm;rw [Bool.and_eq_false_iff];exact .inr (List.all_eq_false.2 ⟨k,by simpa using hk,by simp [h]⟩)
theorem isForm_good {ds:List Int} {ts:List Term} (h : ∀j,j<ts.length→goodAt ds ts j=true):isForm ds ts=decide ((ts.length:Int)≤400):=by
 unfold isForm;rw [List.all_eq_true.2 (fun j hj=>h j (by simpa using hj)),Bool.and_true];exact decide_eq_decide.2 (by omega)
theorem l01Before_c {B:World} {H0 H:HP} {L:List SA} {w:World} {a:List Int} {b:List Int} (ha:Mono a) (hb:Mono b) (hH:Hp B H0 H L w):Calls Tryz.prog 111 [.agg (bytesC a).toArray,.agg (bytesC b).toArray].toArray w fun e w'=>e = .returned (.bool (before a b))∧Hp B H0 H L w':=by
 refine JD Tryz.func111 rfl 24 rfl rfl [(0,.agg (bytesC a).toArray),(1,.agg (bytesC b).toArray)] rfl hH ?_;have hal:=ha.len;have hbl:=hb.len;clear hH;refine Jd fun _ hK1 _=>(Jb (Eo rfl rfl rfl fun g2=>(Eo rfl rfl rfl fun g3=>(Jg (Je rfl) rfl (Jf (Ja (hK1 (Jd fun _ hK2 _=>(Jd fun _ hK3 _=>(Jb (Jg (Je rfl) rfl (Jf (Ja (hK3 (Jx (JP (σ:=Nat) (fun (k:Nat)=>[(5,.int .i64 (k:Int))]) (fun (k:Nat)=>H) (fun (k:Nat)=>obj g3 (.cells (bytesC b).toArray 87 (0,0))::obj g2 (.cells (bytesC a).toArray 87 (0,0))::L) (fun (k:Nat)=>k≤8∧∀j,j<k→a.getD j 0=b.getD j 0) (fun (k:Nat)=>8 - k) 0 ⟨by omega,fun j hj=>by omega⟩ ⟨rfl,trivial⟩ rfl rfl ?_))))))))))))))));rintro k hI _ hAg0;have hk:=hI.1;refine Jd fun _ hK4 _=>(Jd fun _ hK5 _=>(Jb (Jg (Jc rfl) rfl (Jg (JZ rfl rfl) rfl (Jf (Ja (hK5 (Jp rfl (fun hc7=>?_) (fun hc7=>?_)))))))))
 ·
  refine Jo (Ja (hK4 (Jd fun _ hK6 _=>(Jx (Jd fun _ hK7 _=>(ED foll0 (by kernel_rfl) (JH (Jc rfl) rfl (JH (Ea u87 sz5 rfl rfl rfl (by omega)) rfl (JH (Jv rfl (.s .z) (by first | exact bytesC_get (by simp [*];omega) | exact intsC_get (by simp [*];omega)) pl5) rfl (JH (Jc rfl) rfl (JH (Ea u87 sz5 rfl rfl rfl (by omega)) rfl (JH (Jv rfl At.z (by first | exact bytesC_get (by simp [*];omega) | exact intsC_get (by simp [*];omega)) pl5) rfl (JH (Ew rfl rfl) rfl (Ej (Ja (hK7 ?_))))))))))))))));refine Jp rfl (fun h16=>?_) (fun h16=>?_)
  ·
   refine Jd fun _ hK8 _=>(ED foll0 (by kernel_rfl) (JH (Jc rfl) rfl (JH (Ea u87 sz5 rfl rfl rfl (by omega)) rfl (JH (Jv rfl (.s .z) (by first | exact bytesC_get (by simp [*];omega) | exact intsC_get (by simp [*];omega)) pl5) rfl (JH (Jc rfl) rfl (JH (Ea u87 sz5 rfl rfl rfl (by omega)) rfl (JH (Jv rfl At.z (by first | exact bytesC_get (by simp [*];omega) | exact intsC_get (by simp [*];omega)) pl5) rfl (JH (Eq rfl rfl) rfl (JH (Je rfl) rfl (Ej (Ja (hK8 (Jt (JU (Jn ?_)))))))))))))));refine Jn (JU (Jn (Jy rfl (Res.tmp rfl) fun w hH=>?_)));replace hH:=hH.tail;replace hH:=hH.tail;exact ⟨rb (before_hit (by omega) hI.2 h16).symm,hH⟩
  ·
   refine Jo (JJ (Ja (hK6 (Jb (Jg (Jc rfl) rfl (Jg (JF rfl rfl (by first | exact nw _ (by omega) | rfl)) rfl (Jg (Je rfl) rfl (Jf (Ja ?_)))))))));exact hAg0 (k+1) ⟨by omega,upto hI.2 (by omega)⟩ (by omega) 13 rfl rfl ⟨rfl,trivial⟩ rfl rfl
 ·
  refine JR (Jw (Jw (JY (Ja (hK2 (Jd fun _ hK9 _=>(Jb (Jg (Je rfl) rfl (Jf (Ja (hK9 (Jt (Jy rfl (Res.tmp rfl) fun w hH=>?_)))))))))))));replace hH:=hH.tail;replace hH:=hH.tail;exact ⟨rb (before_miss (fun j hj=>hI.2 j (by omega))).symm,hH⟩
theorem compare_c {B:World} {H0 H:HP} {L:List SA} {w:World} {a:List Int} {b:List Int} (ha:a.length=8) (hb:b.length=8) (hsa:Small a) (hsb:Small b) (hH:Hp B H0 H L w):Calls Tryz.prog 97 [.agg (intsC a).toArray,.agg (intsC b).toArray].toArray w fun e w'=>e = .returned (.int .i64 (cmp a b))∧Hp B H0 H L w':=by
 refine JD Tryz.func97 rfl 24 rfl rfl [(0,.agg (intsC a).toArray),(1,.agg (intsC b).toArray)] rfl hH ?_;clear hH;refine Jd fun _ hK1 _=>(Jb (Eo rfl rfl rfl fun g2=>(Eo rfl rfl rfl fun g3=>(Jg (Je rfl) rfl (Jf (Ja (hK1 (Jd fun _ hK2 _=>(Jd fun _ hK3 _=>(Jb (Jg (Jc rfl) rfl (Jf (Ja (hK3 (Jx (JP (σ:=Nat) (fun (k:Nat)=>[(6,.int .i64 (k:Int))]) (fun (k:Nat)=>H) (fun (k:Nat)=>obj g3 (.cells (intsC b).toArray 127 (0,0))::obj g2 (.cells (intsC a).toArray 127 (0,0))::L) (fun (k:Nat)=>k≤8∧∀j,j<k→a.getD j 0=b.getD j 0) (fun (k:Nat)=>8 - k) 0 ⟨by omega,fun j hj=>by omega⟩ ⟨rfl,trivial⟩ rfl rfl ?_))))))))))))))));rintro k hI _ hAg0;have hk:=hI.1;have ba:=hsa k;have bb:=hsb k;refine Jd fun _ hK4 _=>(Jb (Jg (JZ rfl rfl) rfl (Jf (Ja (hK4 (Jd fun _ hK5 _=>(Jp rfl (fun hc7=>?_) (fun hc7=>?_))))))))
 ·
  refine Jo (Ja (hK5 (Jd fun _ hK6 _=>(Jx (Jd fun _ hK7 _=>(Jb (Jg (Jc rfl) rfl (Jg (Je rfl) rfl (Jf (Ja (hK7 (Jd fun _ hK8 _=>(ED foll0 (by kernel_rfl) (JH (Jc rfl) rfl (JH (Ea u127 sz3 rfl rfl rfl (by omega)) rfl (JH (Jv rfl (.s .z) (by first | exact bytesC_get (by simp [*];omega) | exact intsC_get (by simp [*];omega)) pl3) rfl ?_))))))))))))))));refine JH (Jc rfl) rfl (JH (Ea u127 sz3 rfl rfl rfl (by omega)) rfl (JH (Jv rfl At.z (by first | exact bytesC_get (by simp [*];omega) | exact intsC_get (by simp [*];omega)) pl3) rfl (JH (Ew rfl rfl) rfl (Ej (Ja (hK8 (Jp rfl (fun h15=>?_) (fun h15=>?_))))))))
  ·
   refine Jd fun _ hK9 _=>(ED foll0 (by kernel_rfl) (JH (Jc rfl) rfl (JH (Ea u127 sz3 rfl rfl rfl (by omega)) rfl (JH (Jv rfl At.z (by first | exact bytesC_get (by simp [*];omega) | exact intsC_get (by simp [*];omega)) pl3) rfl (JH (Jc rfl) rfl (JH (Ea u127 sz3 rfl rfl rfl (by omega)) rfl (JH (Jv rfl (.s .z) (by first | exact bytesC_get (by simp [*];omega) | exact intsC_get (by simp [*];omega)) pl3) rfl (JH (ET rfl rfl (by first | exact nw _ (by omega) | rfl)) rfl (JH (Je rfl) rfl (Ej (Ja (hK9 (Jt (JU (Jn ?_)))))))))))))));refine Jn (JU (Jn (Jy rfl (Res.tmp rfl) fun w hH=>?_)));replace hH:=hH.tail;replace hH:=hH.tail;exact ⟨ri (cmp_hit (by omega) hI.2 h15).symm,hH⟩
  ·
   refine Jo (JJ (Ja (hK6 (Jb (Jg (JF rfl rfl (by first | exact nw _ (by omega) | rfl)) rfl (Jg (Jc rfl) rfl (Jf (Ja ?_))))))));exact hAg0 (k+1) ⟨by omega,upto hI.2 (by omega)⟩ (by omega) 13 rfl rfl ⟨rfl,trivial⟩ rfl rfl
 ·
  refine JR (Jw (Jw (JY (Ja (hK2 (Jd fun _ hK10 _=>(Jb (Jg (Je rfl) rfl (Jf (Ja (hK10 (Jt (Jy rfl (Res.tmp rfl) fun w hH=>?_)))))))))))));replace hH:=hH.tail;replace hH:=hH.tail;exact ⟨ri (cmp_miss (fun j hj=>hI.2 j (by omega))).symm,hH⟩
theorem isFactor_c {B:World} {H0 H:HP} {L:List SA} {w:World} {x:Int} (hH:Hp B H0 H L w):Calls Tryz.prog 95 [.int .i64 x].toArray w fun e w'=>e = .returned (.bool (decide (1≤x) && decide (x≤10006)))∧Hp B H0 H L w':=by
 refine JD Tryz.func95 rfl 5 rfl rfl [(0,.int .i64 x)] rfl hH ?_;clear hH;refine Jd fun _ hK1 _=>(Jb (Jg (Je rfl) rfl (Jf (Ja (hK1 (Jd fun _ hK2 _=>(Jb (Jg (Jc rfl) rfl (Jz fn48 rfl rfl fun w hH=>(within_c hH).mono ?_)))))))));rintro _ w ⟨rfl,hH⟩;refine ⟨_,rfl,fun a hF=>JL hF hH ?_⟩;refine Jg (Je rfl) rfl (Jf (Ja (hK2 (Jt (Jy rfl (Res.tmp rfl) fun w hH=>?_)))));exact ⟨rfl,hH⟩
theorem u40:Tryz.prog.underlying 40=some (TypeDesc.slice 89):=by kernel_rfl
theorem u42:Tryz.prog.underlying 42=some (TypeDesc.struct #[{name:="Terms",type:=40,offset:=0,embedded:=false,tag:="",pkgPath:="",byteOffset:=0}]):=by kernel_rfl
theorem u89:Tryz.prog.underlying 89=some (TypeDesc.struct #[{name:="Monomial",type:=87,offset:=0,embedded:=false,tag:="",pkgPath:="",byteOffset:=0},{name:="Factor",type:=2,offset:=8,embedded:=false,tag:="",pkgPath:="",byteOffset:=8}]):=by kernel_rfl
theorem sz40:Size Tryz.prog 40 1:=by unfold Size;kernel_rfl
theorem sz87:Size Tryz.prog 87 8:=by unfold Size;kernel_rfl
theorem sz89:Size Tryz.prog 89 9:=by unfold Size;kernel_rfl
theorem ze89:Zero Tryz.prog 89 [.int .u8 0,.int .u8 0,.int .u8 0,.int .u8 0,.int .u8 0,.int .u8 0,.int .u8 0,.int .u8 0,.int .i64 0]:=by unfold Zero;kernel_rfl
theorem pl40:Plain Tryz.prog 40:=⟨_,u40,rfl⟩
theorem ag89:Agg Tryz.prog 89 9:=⟨_,u89,rfl,by kernel_rfl⟩
theorem fn104:Fn Tryz.prog 104:=⟨_,Tryz.func104,by kernel_rfl,rfl⟩
theorem fn111:Fn Tryz.prog 111:=⟨_,Tryz.func111,by kernel_rfl,rfl⟩
theorem fn94:Fn Tryz.prog 94:=⟨_,Tryz.func94,by kernel_rfl,rfl⟩
theorem fn95:Fn Tryz.prog 95:=⟨_,Tryz.func95,by kernel_rfl,rfl⟩
theorem fn96:Fn Tryz.prog 96:=⟨_,Tryz.func96,by kernel_rfl,rfl⟩
theorem fn97:Fn Tryz.prog 97:=⟨_,Tryz.func97,by kernel_rfl,rfl⟩
theorem good_mono {ds:List Int} {ts:List Term} {i:Nat} (h:isMono ds (tm ts i).mono=false):goodAt ds ts i=false:=by unfold goodAt;rw [h];rfl
theorem good_fac {ds:List Int} {ts:List Term} {i:Nat} (h:(decide (1≤(tm ts i).fac) && decide ((tm ts i).fac≤10006))=false):goodAt ds ts i=false:=by unfold goodAt;rw [h,Bool.and_false];rfl
theorem good_ord {ds:List Int} {ts:List Term} {i:Nat} (h0:0<i) (h:before (tm ts (i - 1)).mono (tm ts i).mono=false):goodAt ds ts i=false:=by unfold goodAt;rw [h,show decide (i=0)=false from decide_eq_false (by omega)];simp
theorem good_yes {ds:List Int} {ts:List Term} {i:Nat} (h1:isMono ds (tm ts i).mono=true) (h2:(decide (1≤(tm ts i).fac) && decide ((tm ts i).fac≤10006))=true) (h3:i=0∨before (tm ts (i - 1)).mono (tm ts i).mono=true):goodAt ds ts i=true:=by
 unfold goodAt;rw [h1,h2]
 rcases h3 with h3 | h3
 ·rw [decide_eq_true h3];rfl
 ·rw [h3];simp
theorem before_le {p q:List Int} (h:cmp p q≥0):before p q=false:=decide_eq_false (by omega)
theorem before_lt {p q:List Int} (h : ¬cmp p q≥0):before p q=true:=decide_eq_true (by omega)
theorem isForm_c {B:World} {H0 H:HP} {L:List SA} {w:World} {qds:Option Addr} {cds:Nat} {ds:List Int} {qts:Option Addr} {cts:Nat} {ts:List Term} (hds:Ints H qds ds) (hts:Terms H qts ts) (hn:ds.length≤1048576) (hl:ts.length≤9223372036854775807) (hH:Hp B H0 H L w):Calls Tryz.prog 56 [.slice qds ds.length cds,.agg [.slice qts ts.length cts].toArray].toArray w fun e w'=>e = .returned (.bool (isForm ds ts))∧Hp B H0 H L w':=by
 refine JD Tryz.func56 rfl 48 rfl rfl [(0,.slice qds ds.length cds),(1,.agg [.slice qts ts.length cts].toArray)] rfl hH ?_;clear hH;refine Jd fun _ hK1 _=>(Jb (Eo rfl rfl rfl fun g3=>(Jg (Je rfl) rfl (Jf (Ja (hK1 (Jd fun _ hK2 _=>(Jd fun _ hK3 _=>(Jb (Jg (Jq u42 rfl sz40 rfl) rfl (Jg (Jv rfl At.z rfl pl40) rfl (Jg (Jr u40 rfl rfl) rfl (Jg (Eq rfl rfl) rfl (Jf (Ja (hK3 ?_))))))))))))))));refine Jp rfl (fun h10=>?_) (fun h10=>?_)
 ·
  refine Jd fun _ hK4 _=>(Jb (Jg (Je rfl) rfl (Jf (Ja (hK4 (Jt (Jn (Jy rfl (Res.tmp rfl) fun w hH=>?_))))))));replace hH:=hH.tail;exact ⟨rb (isForm_long (by omega)).symm,hH⟩
 ·
  refine Jo (Ja (hK2 (Jd fun _ hK5 _=>(Jd fun _ hK6 _=>(Jb (Jg (Jq u42 rfl sz40 rfl) rfl (Jg (Jv rfl At.z rfl pl40) rfl (Jg (Jr u40 rfl rfl) rfl (Jg (Jc rfl) rfl (Jf (Ja (hK6 (Jx (JP (σ:=Nat) (fun (k:Nat)=>[(14,.int .i64 (k:Int))]) (fun (k:Nat)=>H) (fun (k:Nat)=>obj g3 (.cells [.slice qts ts.length cts].toArray 42 (0,0))::L) (fun (k:Nat)=>k≤ts.length∧∀j,j<k→goodAt ds ts j=true) (fun (k:Nat)=>ts.length - k) 0 ⟨by omega,fun j hj=>by omega⟩ ⟨rfl,trivial⟩ rfl rfl ?_))))))))))))));rintro k hI _ hAg0;have hk:=hI.1;refine Jd fun _ hK7 _=>(Jb (Jg (JZ rfl rfl) rfl (Jf (Ja (hK7 (Jd fun _ hK8 _=>(Jp rfl (fun hc15=>?_) (fun hc15=>?_))))))))
  ·
   refine Jo (Ja (hK8 (Jd fun _ hK9 _=>(Jx (Jd fun _ hK10 _=>(Jb (Jg (Jc rfl) rfl (Jg (EA u40 sz89 rfl rfl rfl (by omega) hts.sm) rfl (Jg (JT rfl (hts.cell _ (by omega)) (hts.sm (i:=k) (by omega)) (by rw [Term.c_length (hts.wf _ (by omega))];exact ag89)) rfl (JG (cs:=(default:Term).c) ze89 rfl fun g6=>(Jg (Je rfl) rfl (J.stTerm rfl rfl sz89 zero_wf (hts.wf k (by omega)) At.z (Jf (Ja (hK10 (Jd fun _ hK11 _=>?_))))))))))))))));refine Jd fun _ hK12 _=>(Jb (Jg (Jc rfl) rfl (Jg (Jq u89 rfl sz87 rfl) rfl (Jg (Ke rfl At.z (hts.wf k (by omega)) ag87) rfl (Jz fn94 rfl rfl fun w hH=>(isMonomial_c hds (hts.wf k (by omega)).mono (by omega) hH).mono ?_)))));rintro _ w ⟨rfl,hH⟩;refine ⟨_,rfl,fun a hF=>JL hF hH ?_⟩;refine Jg (Er rfl) rfl (Jg (Jc rfl) rfl (JW (jd:=24) rfl (fun h24=>?_) (fun h24=>?_)))
   ·
    try have h24p:=of_decide_eq_true h24
    refine JE rfl rfl rfl h24 (JE rfl rfl rfl h24 (JE rfl rfl rfl h24 (JE rfl rfl rfl h24 (Jg (JN rfl h24 rfl) rfl (Jf (Ja (hK12 (Ep rfl (Jd fun _ hK13 _=>(Jb (Jg (Je rfl) rfl (Jf (Ja (hK13 (Jt (Jn ?_))))))))))))))));refine JU (Jn (Jn (JU (Jn (Jy rfl (Res.tmp rfl) fun w hH=>?_)))));replace hH:=hH.tail;replace hH:=hH.tail;exact ⟨rb (isForm_bad (k:=k) (by omega) (good_mono (nott h24))).symm,hH⟩
   ·
    try have h24p:=of_decide_eq_false h24
    refine JK (Jq u89 rfl sz2 rfl) rfl rfl rfl h24 (JK (PR.ldFac rfl At.z (hts.wf k (by omega)) pl2) rfl rfl rfl h24 (Et fn95 rfl rfl h24 rfl rfl fun w hH=>(isFactor_c hH).mono ?_));rintro _ w ⟨rfl,hH⟩;refine ⟨_,rfl,fun a hF=>JL hF hH ?_⟩;refine JK (Er rfl) rfl rfl rfl h24 (Jg (JM rfl h24 rfl) rfl (Jf (Ja (hK12 (Ek rfl (fun h29=>?_) (fun h29=>?_))))))
    ·
     refine Jd fun _ hK14 _=>(Jb (Jg (Je rfl) rfl (Jf (Ja (hK14 (Jt (Jn (JU (Jn (Jn (JU (Jn (Jy rfl (Res.tmp rfl) fun w hH=>?_)))))))))))));replace hH:=hH.tail;replace hH:=hH.tail;exact ⟨rb (isForm_bad (k:=k) (by omega) (good_fac (nott h29))).symm,hH⟩
    ·
     refine Jo (Ja (hK11 (Jd fun _ hK15 _=>(Ev [[], [0], [1], [2], [3,2], [2], [5,2], [4,6,2], [7,2], [8,2], [9,2], [2], [11,2]] (by kernel_rfl) (JB (fun gh=>Jc rfl) (JB (fun gh=>Eq rfl rfl) (JB (fun gh=>Jc rfl) (EY 2 rfl (fun h32=>?_) (fun h32=>?_)))))))))
     ·
      try have h32p:=of_decide_eq_true h32
      refine El (fun gh=>Jq u42 rfl sz40 rfl) rfl (fun gh=>rfl) h32 (El (fun gh=>Jv rfl (.s .z) rfl pl40) rfl (fun gh=>rfl) h32 (El (fun gh=>Jc rfl) rfl (fun gh=>rfl) h32 (El (fun gh=>ET rfl rfl (by first | exact nw _ (by omega) | rfl)) rfl (fun gh=>rfl) h32 (El (fun gh=>EA (i':=(k - 1)) u40 sz89 rfl rfl (by omega) (by omega) hts.sm) rfl (fun gh=>rfl) h32 (El (fun gh=>EC u89 rfl sz87 rfl (hts.sm (i:=(k - 1)) (by omega))) rfl (fun gh=>rfl) h32 (El (fun gh=>JT rfl (hts.mono (by omega)) (hts.sm (i:=(k - 1)) (by omega)) (by rw [bytesC_length,(hts.wf _ (by omega)).mono.len];exact ag87)) rfl (fun gh=>rfl) h32 (HJ.gcall fn96 rfl (fun gh=>rfl) h32 (fun gh=>rfl) (fun w X hH=>powerOf_c (hts.wf (k - 1) (by omega)).mono hH) (El (fun gh=>Jq u89 rfl sz87 rfl) rfl (fun gh=>rfl) h32 (El (fun gh=>Ke rfl At.z (hts.wf k (by omega)) ag87) rfl (fun gh=>rfl) h32 (Ee 13 2 foll0 (by kernel_rfl) rfl rfl fun gh=>(Eu (us':=(30,_)::(31,_)::(32,_)::(33,_)::(34,_)::(35,_)::(36,_)::(37,_)::(38,_)::(39,_)::(40,_)::(41,_)::(42,_)::_) (L':=_) rfl rfl (Et fn96 rfl rfl h32 rfl rfl fun w hH=>(powerOf_c (hts.wf k (by omega)).mono hH).mono ?_))))))))))));rintro _ w ⟨rfl,hH⟩;refine ⟨_,rfl,fun a hF=>JL hF hH ?_⟩;refine Et fn97 rfl rfl h32 rfl rfl fun w hH=>(compare_c (hts.wf (k - 1) (by omega)).mono.len (hts.wf k (by omega)).mono.len (hts.wf _ (by omega)).mono.small (hts.wf _ (by omega)).mono.small hH).mono ?_;rintro _ w ⟨rfl,hH⟩;refine ⟨_,rfl,fun a hF=>JL hF hH ?_⟩;refine Jf (Ef (JS.gy (PR.geq rfl rfl) rfl rfl rfl h32 (JH (JN rfl h32 rfl) rfl (Ej (Ja (hK15 (Jp rfl (fun h46=>?_) (fun h46=>?_))))))))
      ·
       refine Jd fun _ hK16 _=>(Jb (Jg (Je rfl) rfl (Jf (Ja (hK16 (Jt (JU (Jn (Jn (JU (Jn (Jy rfl (Res.tmp rfl) fun w hH=>?_))))))))))));replace hH:=hH.tail;replace hH:=hH.tail;exact ⟨rb (isForm_bad (k:=k) (by omega) (good_ord (by omega) (before_le h46))).symm,hH⟩
      ·
       refine Jo (JJ (Ja (hK9 (Jb (Jg (JF rfl rfl (by first | exact nw _ (by omega) | rfl)) rfl (Jg (Jc rfl) rfl (Jf (Ja (JC .z ?_)))))))));exact hAg0 (k+1) ⟨by omega,upto hI.2 (good_yes (notf h24) (notf h29) (.inr (before_lt h46)))⟩ (by omega) 37 rfl rfl ⟨rfl,trivial⟩ rfl rfl
     ·
      try have h32p:=of_decide_eq_false h32
      refine Ei rfl (fun gh=>rfl) h32 (Ei rfl (fun gh=>rfl) h32 (Ei rfl (fun gh=>rfl) h32 (Ei rfl (fun gh=>rfl) h32 (Ei rfl (fun gh=>rfl) h32 (Ei rfl (fun gh=>rfl) h32 (Ei rfl (fun gh=>rfl) h32 (Ei rfl (fun gh=>rfl) h32 (Ei rfl (fun gh=>rfl) h32 (Ei rfl (fun gh=>rfl) h32 (Ee 13 2 foll0 (by kernel_rfl) rfl rfl fun gh=>(Eu (us':=(30,_)::(31,_)::(32,_)::(33,_)::(34,_)::(35,_)::(36,_)::(37,_)::(38,_)::(39,_)::(40,_)::(41,_)::(42,_)::_) (L':=_) rfl rfl (JE rfl rfl rfl h32 (JE rfl rfl rfl h32 (Jf ?_))))))))))))));refine Ef (JS.gn rfl rfl rfl h32 (JH (JM rfl h32 rfl) rfl (Ej (Ja (hK15 (Ey rfl (Jo (JJ (Ja (hK9 (Jb (Jg (JF rfl rfl (by first | exact nw _ (by omega) | rfl)) rfl (Jg (Jc rfl) rfl (Jf (Ja (JC .z ?_))))))))))))))));exact hAg0 (k+1) ⟨by omega,upto hI.2 (good_yes (notf h24) (notf h29) (.inl (by omega)))⟩ (by omega) 37 rfl rfl ⟨rfl,trivial⟩ rfl rfl
  ·
   refine JR (Jw (Jw (JY (Ja (hK5 (Jd fun _ hK17 _=>(Jb (Jg (Je rfl) rfl (Jf (Ja (hK17 (Jt (Jy rfl (Res.tmp rfl) fun w hH=>?_)))))))))))));replace hH:=hH.tail;exact ⟨rb ((isForm_good (fun j hj=>hI.2 j (by omega))).trans (decide_eq_true (by omega))).symm,hH⟩
theorem l01Is_c {B:World} {H0 H:HP} {L:List SA} {w:World} {qds:Option Addr} {cds:Nat} {ds:List Int} {qts:Option Addr} {cts:Nat} {ts:List Term} (hds:Ints H qds ds) (hts:Terms H qts ts) (hn:ds.length≤1048576) (hp : ∀j,j<ds.length→0≤ds.getD j 0) (hl:ts.length≤9223372036854775807) (hH:Hp B H0 H L w):Calls Tryz.prog 67 [.slice qds ds.length cds,.agg [.slice qts ts.length cts].toArray].toArray w fun e w'=>e = .returned (.bool (isForm ds ts))∧Hp B H0 H L w':=by
 refine JD Tryz.func67 rfl 51 rfl rfl [(0,.slice qds ds.length cds),(1,.agg [.slice qts ts.length cts].toArray)] rfl hH ?_;clear hH;refine Jd fun _ hK1 _=>(Jb (Eo rfl rfl rfl fun g3=>(Jg (Je rfl) rfl (Jf (Ja (hK1 (Jd fun _ hK2 _=>(Jd fun _ hK3 _=>(Jb (Jg (Je rfl) rfl (Jf (Ja (hK3 (Jx (JP (σ:=Nat) (fun (k:Nat)=>[(5,.int .i64 (k:Int))]) (fun (k:Nat)=>H) (fun (k:Nat)=>obj g3 (.cells [.slice qts ts.length cts].toArray 42 (0,0))::L) (fun (k:Nat)=>k≤ts.length∧∀j,j<k→goodAt ds ts j=true) (fun (k:Nat)=>ts.length - k) 0 ⟨by omega,fun j hj=>by omega⟩ ⟨rfl,trivial⟩ rfl rfl ?_)))))))))))))));rintro k hI _ hAg0;have hk:=hI.1;refine Jd fun _ hK4 _=>(Jd fun _ hK5 _=>(Jb (Jg (Jc rfl) rfl (Jg (Jq u42 rfl sz40 rfl) rfl (Jg (Jv rfl At.z rfl pl40) rfl (Jg (Jr u40 rfl rfl) rfl (Jg (JZ rfl rfl) rfl (Jf (Ja (hK5 (Jp rfl (fun hc11=>?_) (fun hc11=>?_))))))))))))
 ·
  refine Jo (Ja (hK4 (Jd fun _ hK6 _=>(Jx (Jd fun _ hK7 _=>(Jb (Jg (Jq u42 rfl sz40 rfl) rfl (Jg (Jv rfl At.z rfl pl40) rfl (Jg (Jc rfl) rfl (Jg (EA u40 sz89 rfl rfl rfl (by omega) hts.sm) rfl (Jg (JT rfl (hts.cell _ (by omega)) (hts.sm (i:=k) (by omega)) (by rw [Term.c_length (hts.wf _ (by omega))];exact ag89)) rfl (JG (cs:=(default:Term).c) ze89 rfl fun g6=>(J.stTerm rfl rfl sz89 zero_wf (hts.wf k (by omega)) At.z (Jf (Ja (hK7 ?_))))))))))))))));refine Jd fun _ hK8 _=>(Ev [[], [], [1], [0,2], [3], [4], [5], [6,5], [7,5], [8,5], [5,9], [10], [11], [12,11], [13,11], [14], [15,14], [14], [17,14], [16,18,14], [19,14], [20,14], [14], [22,14]] (by kernel_rfl) (JB (fun gh=>Jc rfl) (JB (fun gh=>Jq u89 rfl sz87 rfl) (JB (fun gh=>Ke rfl At.z (hts.wf k (by omega)) ag87) (ES fn104 (fun gh=>rfl) (fun w X hH=>l01Mono_c hds (hts.wf k (by omega)).mono (by omega) hp hH) (JB (fun gh=>Er rfl) (JB (fun gh=>Jc rfl) (EY 5 rfl (fun h24=>?_) (fun h24=>?_)))))))))
  ·
   try have h24p:=of_decide_eq_true h24
   refine Ei rfl (fun gh=>rfl) h24 (Ei rfl (fun gh=>rfl) h24 (Ei rfl (fun gh=>rfl) h24 (Ei rfl (fun gh=>rfl) h24 (JB (fun gh=>JN rfl h24 rfl) (JB (fun gh=>Jc rfl) (Ei rfl (fun gh=>rfl) rfl (Ei rfl (fun gh=>rfl) rfl (Ei rfl (fun gh=>rfl) rfl (EF rfl (fun gh=>rfl) (EF rfl (fun gh=>rfl) (EF rfl (fun gh=>rfl) (EF rfl (fun gh=>rfl) (EF rfl (fun gh=>rfl) (EF rfl (fun gh=>rfl) ?_))))))))))))));refine EF rfl (fun gh=>rfl) (EF rfl (fun gh=>rfl) (EF rfl (fun gh=>rfl) (Ee 24 1 foll0 (by kernel_rfl) rfl rfl fun gh=>(Eu (us':=(19,_)::(20,_)::(21,_)::(22,_)::(23,_)::(24,_)::(25,_)::(26,_)::(27,_)::(28,_)::(29,_)::(30,_)::(31,_)::(32,_)::(33,_)::(34,_)::(35,_)::(36,_)::(37,_)::(38,_)::(39,_)::(40,_)::(41,_)::(42,_)::_) (L':=_) rfl rfl (EN rfl rfl rfl (Jf (Ef (JS.gu rfl rfl rfl (JS.gn rfl rfl rfl rfl (JH (JN rfl rfl rfl) rfl (Ej (Ja (hK8 (Ep rfl (Jd fun _ hK9 _=>?_)))))))))))))));refine Jb (Jg (Je rfl) rfl (Jf (Ja (hK9 (Jt (JU (Jn (Jn (JU (Jn (Jy rfl (Res.tmp rfl) fun w hH=>?_)))))))))));replace hH:=hH.tail;replace hH:=hH.tail;exact ⟨rb (isForm_bad (k:=k) (by omega) (good_mono (nott h24))).symm,hH⟩
  ·
   try have h24p:=of_decide_eq_false h24
   refine El (fun gh=>Jq u89 rfl sz2 rfl) rfl (fun gh=>rfl) h24 (El (fun gh=>PR.ldFac rfl At.z (hts.wf k (by omega)) pl2) rfl (fun gh=>rfl) h24 (HJ.gcall fn53 rfl (fun gh=>rfl) h24 (fun gh=>rfl) (fun w X hH=>l01In_c hH) (El (fun gh=>Er rfl) rfl (fun gh=>rfl) h24 (JB (fun gh=>JM rfl h24 rfl) (JB (fun gh=>Jc rfl) (EY 11 rfl (fun h30=>?_) (fun h30=>?_)))))))
   ·
    try have h30p:=of_decide_eq_true h30
    refine Ei rfl (fun gh=>rfl) h30 (Ei rfl (fun gh=>rfl) h30 (Ei rfl (fun gh=>rfl) h30 (EF rfl (fun gh=>rfl) (EF rfl (fun gh=>rfl) (EF rfl (fun gh=>rfl) (EF rfl (fun gh=>rfl) (EF rfl (fun gh=>rfl) (EF rfl (fun gh=>rfl) (EF rfl (fun gh=>rfl) (EF rfl (fun gh=>rfl) (EF rfl (fun gh=>rfl) (Ee 24 1 foll0 (by kernel_rfl) rfl rfl fun gh=>(Eu (us':=(19,_)::(20,_)::(21,_)::(22,_)::(23,_)::(24,_)::(25,_)::(26,_)::(27,_)::(28,_)::(29,_)::(30,_)::(31,_)::(32,_)::(33,_)::(34,_)::(35,_)::(36,_)::(37,_)::(38,_)::(39,_)::(40,_)::(41,_)::(42,_)::_) (L':=_) rfl rfl (EN rfl rfl rfl ?_))))))))))))));refine Jf (Ef (JS.gu rfl rfl rfl (JS.gn rfl rfl rfl h30 (JH (JN rfl h30 rfl) rfl (Ej (Ja (hK8 (Ep rfl (Jd fun _ hK10 _=>(Jb (Jg (Je rfl) rfl (Jf (Ja (hK10 (Jt (JU ?_))))))))))))))));refine Jn (Jn (JU (Jn (Jy rfl (Res.tmp rfl) fun w hH=>?_))));replace hH:=hH.tail;replace hH:=hH.tail;exact ⟨rb (isForm_bad (k:=k) (by omega) (good_fac (nott h30))).symm,hH⟩
   ·
    try have h30p:=of_decide_eq_false h30
    refine El (fun gh=>Jc rfl) rfl (fun gh=>rfl) h30 (El (fun gh=>Eq rfl rfl) rfl (fun gh=>rfl) h30 (El (fun gh=>Jc rfl) rfl (fun gh=>rfl) h30 (EY 14 rfl (fun h33=>?_) (fun h33=>?_))))
    ·
     try have h33p:=of_decide_eq_true h33
     refine El (fun gh=>Jq u42 rfl sz40 rfl) rfl (fun gh=>rfl) h33 (El (fun gh=>Jv rfl (.s .z) rfl pl40) rfl (fun gh=>rfl) h33 (El (fun gh=>Jc rfl) rfl (fun gh=>rfl) h33 (El (fun gh=>ET rfl rfl (by first | exact nw _ (by omega) | rfl)) rfl (fun gh=>rfl) h33 (El (fun gh=>EA (i':=(k - 1)) u40 sz89 rfl rfl (by omega) (by omega) hts.sm) rfl (fun gh=>rfl) h33 (El (fun gh=>EC u89 rfl sz87 rfl (hts.sm (i:=(k - 1)) (by omega))) rfl (fun gh=>rfl) h33 (El (fun gh=>JT rfl (hts.mono (by omega)) (hts.sm (i:=(k - 1)) (by omega)) (by rw [bytesC_length,(hts.wf _ (by omega)).mono.len];exact ag87)) rfl (fun gh=>rfl) h33 (El (fun gh=>Jq u89 rfl sz87 rfl) rfl (fun gh=>rfl) h33 (El (fun gh=>Ke rfl At.z (hts.wf k (by omega)) ag87) rfl (fun gh=>rfl) h33 (Ee 24 1 foll0 (by kernel_rfl) rfl rfl fun gh=>(Eu (us':=(19,_)::(20,_)::(21,_)::(22,_)::(23,_)::(24,_)::(25,_)::(26,_)::(27,_)::(28,_)::(29,_)::(30,_)::(31,_)::(32,_)::(33,_)::(34,_)::(35,_)::(36,_)::(37,_)::(38,_)::(39,_)::(40,_)::(41,_)::(42,_)::_) (L':=_) rfl rfl (Et fn111 rfl rfl h33 rfl rfl fun w hH=>(l01Before_c (hts.wf (k - 1) (by omega)).mono (hts.wf k (by omega)).mono hH).mono ?_)))))))))));rintro _ w ⟨rfl,hH⟩;refine ⟨_,rfl,fun a hF=>JL hF hH ?_⟩;refine Jf (Ef (JS.gy (Er rfl) rfl rfl rfl h33 (JS.gy (JN rfl h33 rfl) rfl rfl rfl h30 (JH (JM rfl h30 rfl) rfl (Ej (Ja (hK8 (Ek rfl (fun h46=>?_) (fun h46=>?_)))))))))
     ·
      refine Jd fun _ hK11 _=>(Jb (Jg (Je rfl) rfl (Jf (Ja (hK11 (Jt (JU (Jn (Jn (JU (Jn (Jy rfl (Res.tmp rfl) fun w hH=>?_))))))))))));replace hH:=hH.tail;replace hH:=hH.tail;exact ⟨rb (isForm_bad (k:=k) (by omega) (good_ord (by omega) (nott h46))).symm,hH⟩
     ·
      refine Jo (JJ (Ja (hK6 (Jb (Jg (Jc rfl) rfl (Jg (JF rfl rfl (by first | exact nw _ (by omega) | rfl)) rfl (Jg (Je rfl) rfl (Jf (Ja (JC .z ?_))))))))));exact hAg0 (k+1) ⟨by omega,upto hI.2 (good_yes (notf h24) (notf h30) (.inr (notf h46)))⟩ (by omega) 43 rfl rfl ⟨rfl,trivial⟩ rfl rfl
    ·
     try have h33p:=of_decide_eq_false h33
     refine Ei rfl (fun gh=>rfl) h33 (Ei rfl (fun gh=>rfl) h33 (Ei rfl (fun gh=>rfl) h33 (Ei rfl (fun gh=>rfl) h33 (Ei rfl (fun gh=>rfl) h33 (Ei rfl (fun gh=>rfl) h33 (Ei rfl (fun gh=>rfl) h33 (Ei rfl (fun gh=>rfl) h33 (Ei rfl (fun gh=>rfl) h33 (Ee 24 1 foll0 (by kernel_rfl) rfl rfl fun gh=>(Eu (us':=(19,_)::(20,_)::(21,_)::(22,_)::(23,_)::(24,_)::(25,_)::(26,_)::(27,_)::(28,_)::(29,_)::(30,_)::(31,_)::(32,_)::(33,_)::(34,_)::(35,_)::(36,_)::(37,_)::(38,_)::(39,_)::(40,_)::(41,_)::(42,_)::_) (L':=_) rfl rfl (JE rfl rfl rfl h33 (Jf (Ef (JS.gn rfl rfl rfl h33 ?_))))))))))))));refine JS.gy (JM rfl h33 rfl) rfl rfl rfl h30 (JH (JM rfl h30 rfl) rfl (Ej (Ja (hK8 (Ey rfl (Jo (JJ (Ja (hK6 (Jb (Jg (Jc rfl) rfl (Jg (JF rfl rfl (by first | exact nw _ (by omega) | rfl)) rfl (Jg (Je rfl) rfl (Jf (Ja (JC .z ?_))))))))))))))));exact hAg0 (k+1) ⟨by omega,upto hI.2 (good_yes (notf h24) (notf h30) (.inl (by omega)))⟩ (by omega) 43 rfl rfl ⟨rfl,trivial⟩ rfl rfl
 ·
  refine JR (Jw (Jw (JY (Ja (hK2 (Jd fun _ hK12 _=>(Jb (Jg (Jq u42 rfl sz40 rfl) rfl (Jg (Jv rfl At.z rfl pl40) rfl (Jg (Jr u40 rfl rfl) rfl (Jg (PR.leq rfl rfl) rfl (Jg (Je rfl) rfl (Jf (Ja (hK12 (Jt ?_))))))))))))))));refine Jy rfl (Res.tmp rfl) fun w hH=>?_;replace hH:=hH.tail;exact ⟨rb (isForm_good (fun j hj=>hI.2 j (by omega))).symm,hH⟩
theorem fn123:Fn Tryz.prog 123:=⟨_,Tryz.func123,by kernel_rfl,rfl⟩
theorem fn88:Fn Tryz.prog 88:=⟨_,Tryz.func88,by kernel_rfl,rfl⟩
def wd (ds:List Int) (ts:List Term) (i:Nat):Int:=wsum ds (tm ts i).mono ds.length
theorem wd_bd {ds:List Int} {ts:List Term} {i:Nat} (hn:ds.length≤8) (hd : ∀j,0≤ds.getD j 0∧ds.getD j 0≤12) (hw:Mono (tm ts i).mono):0≤wd ds ts i∧wd ds ts i≤24480:=by
 have h:=wsum_bd hd hw.bd ds.length;unfold wd
 omega
def outAt (ds:List Int) (ts:List Term) (k:Nat):Int:=if k=0 then -1 else wd ds ts 0
theorem outAt_pos {ds:List Int} {ts:List Term} {k:Nat} (h:outAt ds ts k≥0):0<k∧outAt ds ts k=wd ds ts 0:=by
 unfold outAt at h ⊢
 by_cases e:k=0
 ·rw [if_pos e] at h;omega
 ·exact ⟨by omega,if_neg e⟩
theorem outAt_neg {ds:List Int} {ts:List Term} {k:Nat} (h0:0≤wd ds ts 0) (h : ¬outAt ds ts k≥0):k=0:=by
 unfold outAt at h
 by_cases e:k=0
 ·exact e
 ·rw [if_neg e] at h;omega
theorem outAt_succ {ds:List Int} {ts:List Term} {k:Nat} (h:wd ds ts k=wd ds ts 0):wd ds ts k=outAt ds ts (k+1):=by unfold outAt;rw [if_neg (by omega),h]
def homog (ds:List Int) (ts:List Term):Bool:=(List.range ts.length).all fun i=>decide (wd ds ts i=wd ds ts 0)
def degF (ds:List Int) (ts:List Term):Int:=if homog ds ts then outAt ds ts ts.length else 0
theorem homog_no {ds:List Int} {ts:List Term} {k:Nat} (hk:k<ts.length) (h:wd ds ts k≠wd ds ts 0):homog ds ts=false:=by
 unfold homog;exact List.all_eq_false.2 ⟨k,by simpa using hk,by simpa using h⟩
theorem homog_yes {ds:List Int} {ts:List Term} (h : ∀j,j<ts.length→wd ds ts j=wd ds ts 0):homog ds ts=true:=by
 unfold homog
 exact List.all_eq_true.2 fun j hj=>by simpa using h j (by simpa using hj)
theorem degRet {ds:List Int} {ts:List Term} {v:Int} {b:Bool} (hb:homog ds ts=b) (hv:v=if b then outAt ds ts ts.length else 0):Ending.returned (.tuple #[.int .i64 v,.bool b]) = .returned (.tuple #[.int .i64 (degF ds ts),.bool (homog ds ts)]):=by
 rw [hv,degF,hb]
theorem degreeOf_c {B:World} {H0 H:HP} {L:List SA} {w:World} {qds:Option Addr} {cds:Nat} {ds:List Int} {qts:Option Addr} {cts:Nat} {ts:List Term} (hds:Ints H qds ds) (hts:Terms H qts ts) (hn:ds.length≤8) (hd : ∀j,0≤ds.getD j 0∧ds.getD j 0≤12) (hl:ts.length≤9223372036854775807) (hH:Hp B H0 H L w):Calls Tryz.prog 89 [.slice qds ds.length cds,.agg [.slice qts ts.length cts].toArray].toArray w fun e w'=>e = .returned (.tuple #[.int .i64 (degF ds ts),.bool (homog ds ts)])∧Hp B H0 H L w':=by
 refine JD Tryz.func89 rfl 32 rfl rfl [(0,.slice qds ds.length cds),(1,.agg [.slice qts ts.length cts].toArray)] rfl hH ?_;clear hH;refine Jd fun _ hK1 _=>(Jb (Eo rfl rfl rfl fun g3=>(Jg (Je rfl) rfl (Jg (Je rfl) rfl (Jf (Ja (hK1 (Jd fun _ hK2 _=>(Jb (Jg (Je rfl) rfl (Jf (Ja (hK2 (Jd fun _ hK3 _=>(Jd fun _ hK4 _=>(Jb ?_))))))))))))))));refine Jg (Jq u42 rfl sz40 rfl) rfl (Jg (Jv rfl At.z rfl pl40) rfl (Jg (Jr u40 rfl rfl) rfl (Jg (Jc rfl) rfl (Jf (Ja (hK4 (Jx (JP (σ:=Nat) (fun (k:Nat)=>[(13,.int .i64 (k:Int)),(6,.int .i64 (outAt ds ts k))]) (fun (k:Nat)=>H) (fun (k:Nat)=>obj g3 (.cells [.slice qts ts.length cts].toArray 42 (0,0))::L) (fun (k:Nat)=>k≤ts.length∧∀j,j<k→wd ds ts j=wd ds ts 0) (fun (k:Nat)=>ts.length - k) 0 ⟨by omega,fun j hj=>by omega⟩ ⟨rfl,⟨rfl,trivial⟩⟩ rfl rfl ?_))))))));rintro k hI _ hAg0;have hk:=hI.1;refine Jd fun _ hK5 _=>(Jb (Jg (JZ rfl rfl) rfl (Jf (Ja (hK5 (Jd fun _ hK6 _=>(Jp rfl (fun hc14=>?_) (fun hc14=>?_))))))))
 ·
  refine Jo (Ja (hK6 (Jd fun _ hK7 _=>(Jx (Jd fun _ hK8 _=>(Jb (Jg (EA u40 sz89 rfl rfl rfl (by omega) hts.sm) rfl (Jg (JT rfl (hts.cell _ (by omega)) (hts.sm (i:=k) (by omega)) (by rw [Term.c_length (hts.wf _ (by omega))];exact ag89)) rfl (JG (cs:=(default:Term).c) ze89 rfl fun g8=>(J.stTerm rfl rfl sz89 zero_wf (hts.wf k (by omega)) At.z (Jf (Ja (hK8 (Jd fun _ hK9 _=>(Jb (Jg (Jq u89 rfl sz87 rfl) rfl ?_))))))))))))))));refine Jg (Ke rfl At.z (hts.wf k (by omega)) ag87) rfl (Jz fn96 rfl rfl fun w hH=>(powerOf_c (hts.wf k (by omega)).mono hH).mono ?_);rintro _ w ⟨rfl,hH⟩;refine ⟨_,rfl,fun a hF=>JL hF hH ?_⟩;refine Jg (Jc rfl) rfl (Jz fn123 rfl rfl fun w hH=>(degree_c (hts.wf k (by omega)).mono.len hds hn hd (hts.wf k (by omega)).mono.small hH).mono ?_);rintro _ w ⟨rfl,hH⟩;refine ⟨_,rfl,fun a hF=>JL hF hH ?_⟩;refine Jg (Je rfl) rfl (Jf (Ja (hK9 (Jd fun _ hK10 _=>(Jd fun _ hK11 _=>(Jb (Jg (Jc rfl) rfl (Jg (PR.geq rfl rfl) rfl (Jg (Jc rfl) rfl (JW (jd:=24) rfl (fun h24=>?_) (fun h24=>?_)))))))))))
  ·
   try have h24p:=of_decide_eq_true h24
   refine JK (Jc rfl) rfl rfl rfl h24 (JK (Jc rfl) rfl rfl rfl h24 (JK (Ew rfl rfl) rfl rfl rfl h24 (Jg (JN rfl h24 rfl) rfl (Jf (Ja (hK11 (Jp rfl (fun h28=>?_) (fun h28=>?_))))))))
   ·
    refine Jd fun _ hK12 _=>(Jb (Jg (Je rfl) rfl (Jg (Je rfl) rfl (Jf (Ja (hK12 (Jt (Jn (JU (Jn (Jn (JU (Jn (JV rfl (Res.tmp rfl) (Res.tmp rfl) fun w hH=>?_))))))))))))));replace hH:=hH.tail;replace hH:=hH.tail;exact ⟨degRet (homog_no (k:=k) (by omega) (fun e=>h28 (e.trans (outAt_pos h24p).2.symm))) rfl,hH⟩
   ·
    have h28x:wd ds ts k=wd ds ts 0:=(Decidable.not_not.1 h28).trans (outAt_pos h24p).2;refine Jo (Ja (hK10 (Jb (Jg (Jc rfl) rfl (Jg (Je rfl) rfl (Jf (JJ (Ja (hK7 (Jb (Jg (JF rfl rfl (by first | exact nw _ (by omega) | rfl)) rfl (Jg (Jc rfl) rfl (Jf (Ja (JC .z ?_)))))))))))))));exact hAg0 (k+1) ⟨by omega,upto hI.2 h28x⟩ (by omega) 23 rfl rfl ⟨rfl,⟨(vi (outAt_succ (h28x))),trivial⟩⟩ rfl rfl
  ·
   try have h24p:=of_decide_eq_false h24
   refine JE rfl rfl rfl h24 (JE rfl rfl rfl h24 (JE rfl rfl rfl h24 (Jg (JM rfl h24 rfl) rfl (Jf (Ja (hK11 (Ey rfl (Jo (Ja (hK10 (Jb (Jg (Jc rfl) rfl (Jg (Je rfl) rfl (Jf (JJ (Ja (hK7 ?_)))))))))))))))));refine Jb (Jg (JF rfl rfl (by first | exact nw _ (by omega) | rfl)) rfl (Jg (Jc rfl) rfl (Jf (Ja (JC .z ?_)))));exact hAg0 (k+1) ⟨by omega,upto hI.2 (congrArg (wd ds ts) (outAt_neg (wd_bd hn hd (hts.wf 0 (by omega)).mono).1 h24p))⟩ (by omega) 23 rfl rfl ⟨rfl,⟨(vi (outAt_succ ((congrArg (wd ds ts) (outAt_neg (wd_bd hn hd (hts.wf 0 (by omega)).mono).1 h24p))))),trivial⟩⟩ rfl rfl
 ·
  refine JR (Jw (Jw (JY (Ja (hK3 (Jd fun _ hK13 _=>(Jb (Jg (Jc rfl) rfl (Jg (Je rfl) rfl (Jg (Je rfl) rfl (Jf (Ja (hK13 (Jt (JV rfl (Res.tmp rfl) (Res.tmp rfl) fun w hH=>?_)))))))))))))));replace hH:=hH.tail
  obtain rfl:k=ts.length:=by omega
  exact ⟨degRet (homog_yes hI.2) rfl,hH⟩
theorem l01Degree_c {B:World} {H0 H:HP} {L:List SA} {w:World} {qds:Option Addr} {cds:Nat} {ds:List Int} {qts:Option Addr} {cts:Nat} {ts:List Term} (hds:Ints H qds ds) (hts:Terms H qts ts) (hn:ds.length≤8) (hd : ∀j,0≤ds.getD j 0∧ds.getD j 0≤12) (hl:ts.length≤9223372036854775807) (hH:Hp B H0 H L w):Calls Tryz.prog 46 [.slice qds ds.length cds,.agg [.slice qts ts.length cts].toArray].toArray w fun e w'=>e = .returned (.tuple #[.int .i64 (degF ds ts),.bool (homog ds ts)])∧Hp B H0 H L w':=by
 refine JD Tryz.func46 rfl 37 rfl rfl [(0,.slice qds ds.length cds),(1,.agg [.slice qts ts.length cts].toArray)] rfl hH ?_;clear hH;refine Jd fun _ hK1 _=>(Jb (Eo rfl rfl rfl fun g3=>(Jg (Je rfl) rfl (Jg (Je rfl) rfl (Jf (Ja (hK1 (Jd fun _ hK2 _=>(Jd fun _ hK3 _=>(Jb (Jg (Jq u42 rfl sz40 rfl) rfl (Jg (Jv rfl At.z rfl pl40) rfl (Jg (Jr u40 rfl rfl) rfl (Jg (En rfl rfl) rfl (Jf ?_)))))))))))))));refine Ja (hK3 (Jp rfl (fun h11=>?_) (fun h11=>?_)))
 ·
  refine Jd fun _ hK4 _=>(Jb (Jg (Je rfl) rfl (Jg (Je rfl) rfl (Jf (Ja (hK4 (Jt (Jn (JV rfl (Res.tmp rfl) (Res.tmp rfl) fun w hH=>?_)))))))));replace hH:=hH.tail;exact ⟨degRet (homog_yes (fun j hj=>by omega)) (by rw [if_pos rfl];unfold outAt;rw [if_pos (by omega)]),hH⟩
 ·
  refine Jo (Ja (hK2 (Jd fun _ hK5 _=>(Jb (Jg (Jc rfl) rfl (Jg (Jq u42 rfl sz40 rfl) rfl (Jg (Jv rfl At.z rfl pl40) rfl (Jg (EA (i':=0) u40 sz89 rfl rfl rfl (by omega) hts.sm) rfl (Jg (EC u89 rfl sz87 rfl (hts.sm (i:=0) (by omega))) rfl (Jg (JT rfl (hts.mono (by omega)) (hts.sm (i:=0) (by omega)) (by rw [bytesC_length,(hts.wf _ (by omega)).mono.len];exact ag87)) rfl (Jz fn88 rfl rfl fun w hH=>(l01Weight_c hds (hts.wf 0 (by omega)).mono hn hd hH).mono ?_)))))))))));rintro _ w ⟨rfl,hH⟩;refine ⟨_,rfl,fun a hF=>JL hF hH ?_⟩;refine Jg (Je rfl) rfl (Jf (Ja (hK5 (Jd fun _ hK6 _=>(Jd fun _ hK7 _=>(Jb (Jg (Je rfl) rfl (Jf (Ja (hK7 (Jx (JP (σ:=Nat) (fun (k:Nat)=>[(7,.int .i64 (k:Int))]) (fun (k:Nat)=>H) (fun (k:Nat)=>obj g3 (.cells [.slice qts ts.length cts].toArray 42 (0,0))::L) (fun (k:Nat)=>1≤k∧k≤ts.length∧∀j,j<k→wd ds ts j=wd ds ts 0) (fun (k:Nat)=>ts.length - k) 1 ⟨by omega,by omega,fun j hj=>by rw [show j=0 by omega]⟩ ⟨rfl,trivial⟩ rfl rfl ?_))))))))))));rintro k hI _ hAg0;have hk:=hI.2.1;refine Jd fun _ hK8 _=>(Jd fun _ hK9 _=>(Jb (Jg (Jc rfl) rfl (Jg (Jq u42 rfl sz40 rfl) rfl (Jg (Jv rfl At.z rfl pl40) rfl (Jg (Jr u40 rfl rfl) rfl (Jg (JZ rfl rfl) rfl (Jf (Ja (hK9 (Jp rfl (fun hc23=>?_) (fun hc23=>?_))))))))))))
  ·
   refine Jo (Ja (hK8 (Jd fun _ hK10 _=>(Jx (Jd fun _ hK11 _=>(Jb (Jg (Jc rfl) rfl (Jg (Jq u42 rfl sz40 rfl) rfl (Jg (Jv rfl At.z rfl pl40) rfl (Jg (Jc rfl) rfl (Jg (EA u40 sz89 rfl rfl rfl (by omega) hts.sm) rfl (Jg (EC u89 rfl sz87 rfl (hts.sm (i:=k) (by omega))) rfl (Jg (JT rfl (hts.mono (by omega)) (hts.sm (i:=k) (by omega)) (by rw [bytesC_length,(hts.wf _ (by omega)).mono.len];exact ag87)) rfl (Jz fn88 rfl rfl fun w hH=>(l01Weight_c hds (hts.wf k (by omega)).mono hn hd hH).mono ?_))))))))))))));rintro _ w ⟨rfl,hH⟩;refine ⟨_,rfl,fun a hF=>JL hF hH ?_⟩;refine Jg (Jc rfl) rfl (Jg (Ew rfl rfl) rfl (Jf (Ja (hK11 (Jp rfl (fun h35=>?_) (fun h35=>?_))))))
   ·
    refine Jd fun _ hK12 _=>(Jb (Jg (Je rfl) rfl (Jg (Je rfl) rfl (Jf (Ja (hK12 (Jt (JU (Jn (Jn (JU (Jn (JV rfl (Res.tmp rfl) (Res.tmp rfl) fun w hH=>?_)))))))))))));replace hH:=hH.tail;exact ⟨degRet (homog_no (k:=k) (by omega) h35) rfl,hH⟩
   ·
    refine Jo (JJ (Ja (hK10 (Jb (Jg (Jc rfl) rfl (Jg (JF rfl rfl (by first | exact nw _ (by omega) | rfl)) rfl (Jg (Je rfl) rfl (Jf (Ja ?_)))))))));exact hAg0 (k+1) ⟨by omega,by omega,upto hI.2.2 (Decidable.not_not.1 h35)⟩ (by omega) 19 rfl rfl ⟨rfl,trivial⟩ rfl rfl
  ·
   refine JR (Jw (Jw (JY (Ja (hK6 (Jd fun _ hK13 _=>(Jb (Jg (Jc rfl) rfl (Jg (Je rfl) rfl (Jg (Je rfl) rfl (Jf (Ja (hK13 (Jt (JV rfl (Res.tmp rfl) (Res.tmp rfl) fun w hH=>?_)))))))))))))));replace hH:=hH.tail
   obtain rfl:k=ts.length:=by omega
   exact ⟨degRet (homog_yes hI.2.2) (by rw [if_pos rfl];unfold outAt;rw [if_neg (by omega)];rfl),hH⟩
def firstOf (xs:List Int):Int:=(xs.find? (fun x=>decide (x≠0))).getD 0
theorem firstOf_hit {xs:List Int} {k:Nat} (hk:k<xs.length) (h : ∀j,j<k→xs.getD j 0=0) (hn:xs.getD k 0≠0):firstOf xs=xs.getD k 0:=by
 have hg : ∀j,(hj:j<xs.length)→xs[j]=xs.getD j 0:=fun j hj=>by rw [List.getD_eq_getElem?_getD,List.getElem?_eq_getElem hj];rfl
 unfold firstOf
 have:xs.find? (fun x=>decide (x≠0))=some xs[k]:=by
  rw [List.find?_eq_some_iff_getElem];exact ⟨by rw [hg];exact decide_eq_true hn,k,hk,rfl,fun j hj=>by rw [hg,h j hj];rfl⟩
 rw [this,hg]
 rfl
theorem firstOf_miss {xs:List Int} (h : ∀j,j<xs.length→xs.getD j 0=0):firstOf xs=0:=by
 unfold firstOf
 have:xs.find? (fun x=>decide (x≠0))=none:=by
  rw [List.find?_eq_none];intro x hx;obtain ⟨j,hj,rfl⟩:=List.mem_iff_getElem.1 hx;have:=h j hj;rw [List.getD_eq_getElem?_getD,List.getElem?_eq_getElem hj] at this
  simpa using this
 rw [this]
 rfl
theorem when_c {B:World} {H0 H:HP} {L:List SA} {w:World} {b:Bool} {x:Int} (hH:Hp B H0 H L w):Calls Tryz.prog 47 [.bool b,.int .i64 x].toArray w fun e w'=>e = .returned (.int .i64 (if b then x else 0))∧Hp B H0 H L w':=by
 refine JD Tryz.func47 rfl 7 rfl rfl [(0,.bool b),(1,.int .i64 x)] rfl hH ?_;clear hH;refine Jd fun _ hK1 _=>(Jb (Jg (Je rfl) rfl (Jf (Ja (hK1 (Jd fun _ hK2 _=>(Jd fun _ hK3 _=>(Jb (Jg (Jc rfl) rfl (Jf (Ja (hK3 (Ek rfl (fun h5=>?_) (fun h5=>?_))))))))))))))
 ·
  refine Jd fun _ hK4 _=>(Jb (Jg (Jc rfl) rfl (Jg (Je rfl) rfl (Jf (Ja (hK4 (Jt (Jn (Jy rfl (Res.tmp rfl) fun w hH=>?_)))))))));exact ⟨by rw [if_pos h5],hH⟩
 ·
  refine Jo (Ja (hK2 (Jd fun _ hK5 _=>(Jb (Jg (Je rfl) rfl (Jf (Ja (hK5 (Jt (Jy rfl (Res.tmp rfl) fun w hH=>?_))))))))));exact ⟨by rw [if_neg (by rw [h5];simp)],hH⟩
theorem first_c {B:World} {H0 H:HP} {L:List SA} {w:World} {qxs:Option Addr} {cxs:Nat} {xs:List Int} (hxs:Ints H qxs xs) (hn:xs.length≤1000) (hH:Hp B H0 H L w):Calls Tryz.prog 42 [.slice qxs xs.length cxs].toArray w fun e w'=>e = .returned (.int .i64 (firstOf xs))∧Hp B H0 H L w':=by
 refine JD Tryz.func42 rfl 15 rfl rfl [(0,.slice qxs xs.length cxs)] rfl hH ?_;clear hH;refine Jd fun _ hK1 _=>(Jb (Jg (Je rfl) rfl (Jf (Ja (hK1 (Jd fun _ hK2 _=>(Jd fun _ hK3 _=>(Jb (Jg (Jc rfl) rfl (Jg (Jr u24 rfl rfl) rfl (Jg (Jc rfl) rfl (Jf (Ja (hK3 (Jx (JP (σ:=Nat) (fun (k:Nat)=>[(7,.int .i64 (k:Int))]) (fun (k:Nat)=>H) (fun (k:Nat)=>L) (fun (k:Nat)=>k≤xs.length∧∀j,j<k→xs.getD j 0=0) (fun (k:Nat)=>xs.length - k) 0 ⟨by omega,fun j hj=>by omega⟩ ⟨rfl,trivial⟩ rfl rfl ?_))))))))))))))));rintro k hI _ hAg0;have hk:=hI.1;refine Jd fun _ hK4 _=>(Jb (Jg (JZ rfl rfl) rfl (Jf (Ja (hK4 (Jd fun _ hK5 _=>(Jp rfl (fun hc8=>?_) (fun hc8=>?_))))))))
 ·
  refine Jo (Ja (hK5 (Jd fun _ hK6 _=>(Jx (Jd fun _ hK7 _=>(Jb (Jg (Eg u24 sz2 rfl rfl rfl (by omega) hxs.sm) rfl (Jg (JX rfl (hxs _ (by omega)) pl2) rfl (Jg (Je rfl) rfl (Jf (Ja (hK7 (Jd fun _ hK8 _=>(Jb (Jg (Jc rfl) rfl (Jg (Ew rfl rfl) rfl ?_))))))))))))))));refine Jf (Ja (hK8 (Jp rfl (fun hc12=>?_) (fun hc12=>?_))))
  ·
   refine Jd fun _ hK9 _=>(Jb (Jg (Jc rfl) rfl (Jg (Je rfl) rfl (Jf (Ja (hK9 (Jt (JU (Jn (Jn (JU (Jn (Jy rfl (Res.tmp rfl) fun w hH=>?_)))))))))))));exact ⟨ri (firstOf_hit (by omega) hI.2 hc12).symm,hH⟩
  ·
   refine Jo (JJ (Ja (hK6 (Jb (Jg (JF rfl rfl (by first | exact nw _ (by omega) | rfl)) rfl (Jg (Jc rfl) rfl (Jf (Ja ?_))))))));exact hAg0 (k+1) ⟨by omega,upto hI.2 (Decidable.not_not.1 hc12)⟩ (by omega) 9 rfl rfl ⟨rfl,trivial⟩ rfl rfl
 ·
  refine JR (Jw (Jw (JY (Ja (hK2 (Jd fun _ hK10 _=>(Jb (Jg (Je rfl) rfl (Jf (Ja (hK10 (Jt (Jy rfl (Res.tmp rfl) fun w hH=>?_)))))))))))));exact ⟨ri (firstOf_miss (fun j hj=>hI.2 j (by omega))).symm,hH⟩
def upd (out:List Int) (k n:Nat):List Int:=out.set k (out.getD k 0+out.getD (k - n) 0)
def passE (n:Nat):Nat→List Int→List Int
 | 0,out=>out
 | c+1,out=>upd (passE n c out) (n+c) n
def passO (n m:Nat):Nat→List Int→List Int
 | 0,out=>out
 | c+1,out=>upd (passO n m c out) (m - c) n
def pass (m:Nat) (d:Int) (out:List Int):List Int:=if d.tmod 2=1 then passO d.toNat m (m+1 - d.toNat) out else passE d.toNat (m+1 - d.toNat) out
@[simp] theorem upd_length (out:List Int) (k n:Nat):(upd out k n).length=out.length:=by simp [upd]
@[simp] theorem passE_length (n c:Nat) (out:List Int):(passE n c out).length=out.length:=by induction c with | zero=>rfl | succ c ih=>simp [passE,ih]
@[simp] theorem passO_length (n m c:Nat) (out:List Int):(passO n m c out).length=out.length:=by induction c with | zero=>rfl | succ c ih=>simp [passO,ih]
@[simp] theorem pass_length (m:Nat) (d:Int) (out:List Int):(pass m d out).length=out.length:=by unfold pass;split <;> simp
def cap:Nat→Int
 | 0=>1
 | i+1=>41 * cap i
theorem tmod_two {d:Int} (h:0≤d):d.tmod 2=0∨d.tmod 2=1:=by rw [Int.tmod_eq_emod_of_nonneg h];omega
theorem u25:Tryz.prog.underlying 25=some (TypeDesc.slice 42):=by kernel_rfl
theorem sz42:Size Tryz.prog 42 1:=by unfold Size;kernel_rfl
theorem u27:Tryz.prog.underlying 27=some (TypeDesc.struct #[{name:="Degrees",type:=24,offset:=0,embedded:=false,tag:="",pkgPath:="",byteOffset:=0},{name:="Images",type:=25,offset:=1,embedded:=false,tag:="",pkgPath:="",byteOffset:=24}]):=by kernel_rfl
theorem sz27:Size Tryz.prog 27 2:=by unfold Size;kernel_rfl
theorem by2:Bytes Tryz.prog 2 8:=by unfold Bytes;kernel_rfl
theorem by42:Bytes Tryz.prog 42 24:=by unfold Bytes;kernel_rfl
theorem ze2:Zero Tryz.prog 2 [.int .i64 0]:=by unfold Zero;kernel_rfl
theorem ze27:Zero Tryz.prog 27 [.slice none 0 0,.slice none 0 0]:=by unfold Zero;kernel_rfl
theorem bz27 : ∀w,(Instr.build 27 #[]).run Tryz.prog w = .ok (.agg [.slice none 0 0,.slice none 0 0].toArray) w:=fun _=>by kernel_rfl
theorem ze42:Zero Tryz.prog 42 [.slice none 0 0]:=by unfold Zero;kernel_rfl
theorem ag27:Agg Tryz.prog 27 2:=⟨_,u27,rfl,by kernel_rfl⟩
theorem fn38:Fn Tryz.prog 38:=⟨_,Tryz.func38,by kernel_rfl,rfl⟩
theorem fn39:Fn Tryz.prog 39:=⟨_,Tryz.func39,by kernel_rfl,rfl⟩
theorem fn40:Fn Tryz.prog 40:=⟨_,Tryz.func40,by kernel_rfl,rfl⟩
theorem fn41:Fn Tryz.prog 41:=⟨_,Tryz.func41,by kernel_rfl,rfl⟩
theorem fn82:Fn Tryz.prog 82:=⟨_,Tryz.func82,by kernel_rfl,rfl⟩
theorem bd27_0_1 : ∀(q0:Option Addr) (m0 c0:Nat) (q1:Option Addr) (m1 c1:Nat) w,(Instr.build 27 #[(0,.slice q0 m0 c0),(1,.slice q1 m1 c1)]).run Tryz.prog w = .ok (.agg [.slice q0 m0 c0,.slice q1 m1 c1].toArray) w:=fun q0 m0 c0 q1 m1 c1 _=>by kernel_rfl
theorem l01Own_c {B:World} {H0 H:HP} {L:List SA} {w:World} {qxs:Option Addr} {cxs:Nat} {xs:List Int} (hxs:Ints H qxs xs) (hn:xs.length≤1048576) (hH:Hp B H0 H L w):Calls Tryz.prog 82 [.slice qxs xs.length cxs].toArray w fun e w'=>∃q c,e = .returned (.slice q xs.length c)∧Hp B H0 H (own 2 1 q xs.length c (intsC xs)::L) w':=by
 refine JD Tryz.func82 rfl 6 rfl rfl [(0,.slice qxs xs.length cxs)] rfl hH ?_;clear hH;refine Jd fun _ hK1 _=>(Jb (Jg (Je rfl) rfl (Jf (Ja (hK1 (Jd fun _ hK2 _=>(Jb (EX (MK.lit0I u24 sz2) rfl fun qo3 co3=>(Jg (Jc rfl) rfl (J.appendHI u24 ze2 sz2 by2 rfl rfl hxs (by simp;omega) At.z (fun _ _=>At.z) rfl fun qo5 co5=>(Jg (Je rfl) rfl (Jf (Ja (hK2 (Jt (Jy rfl (Res.tmp rfl) fun w hH=>?_))))))))))))))));exact ⟨_,_,rfl,hH⟩
theorem l02Free_c {B:World} {H0 H:HP} {L:List SA} {w:World} {qds:Option Addr} {cds:Nat} {ds:List Int} (hds:Ints H qds ds) (hn:ds.length≤1048576) (hH:Hp B H0 H L w):Calls Tryz.prog 41 [.slice qds ds.length cds].toArray w fun e w'=>∃qd cd qf cf vs,e = .returned (.agg [.slice qd ds.length cd,.slice qf (List.replicate ds.length ([]:List Term)).length cf].toArray)∧Hp B H0 H (own 2 1 qd ds.length cd (intsC ds)::ownFs 42 89 qf cf vs (List.replicate ds.length ([]:List Term))::L) w':=by
 refine JD Tryz.func41 rfl 9 rfl rfl [(0,.slice qds ds.length cds)] rfl hH ?_;clear hH;refine Jd fun _ hK1 _=>(Jb (JG ze27 rfl fun g2=>(Jf (Ja (hK1 (Jd fun _ hK2 _=>(Ev [[], [0], [], [2], [3]] (by kernel_rfl) (JB (fun gh=>Jc rfl) (HJ.callN fn82 (fun gh=>rfl) (fun w X hH=>l01Own_c hds (by omega) hH) (JB (fun gh=>Jc rfl) (JB (fun gh=>Jr u24 rfl rfl) (HJ.mk (fun gh=>MK.makeF 89 u25 ze42 sz42 by42 rfl rfl rfl rfl (by omega)) (Ee 5 2 foll0 (by kernel_rfl) rfl rfl fun gh=>(Eu (us':=(3,_)::(4,_)::(5,_)::(6,_)::(7,_)::_) (L':=_::_::_) rfl rfl (Jg (EO rfl rfl (fun w=>bd27_0_1 _ _ _ _ _ _ w)) rfl ?_)))))))))))))));refine Jk rfl rfl (by first | exact bytesC_one _ | exact intsC_one _ | exact Term.c_one _ | simp [Value.oneCell']) (by simpa [*] using sz27) (by simp [*]) (.s (.s .z)) (Jf (Ef (Ej (Ja (hK2 (Jt (Jy rfl (Res.agg rfl (.s (.s .z)) (by simpa [*] using ag27)) fun w hH=>?_)))))));replace hH:=hH.sublist (.cons_cons _ (.cons_cons _ (.cons _ (List.Sublist.refl _))));exact ⟨_,_,_,_,_,rfl,hH⟩
theorem CloneI_c {B:World} {H0 H:HP} {L:List SA} {w:World} {qxs:Option Addr} {cxs:Nat} {xs:List Int} (hxs:Ints H qxs xs) (hn:xs.length≤1048576) (hH:Hp B H0 H L w):Calls Tryz.prog 39 [.slice qxs xs.length cxs].toArray w fun e w'=>∃q c,e = .returned (.slice q xs.length c)∧Hp B H0 H (own 2 1 q xs.length c (intsC xs)::L) w':=by
 refine JD Tryz.func39 rfl 8 rfl rfl [(0,.slice qxs xs.length cxs)] rfl hH ?_;clear hH;refine Jd fun _ hK1 _=>(Jb (Jg (Je rfl) rfl (Jf (Ja (hK1 (Jd fun _ hK2 _=>(Jd fun _ hK3 _=>(Jb (Jg (Jc rfl) rfl (Jg (PR.eqlNil u24 rfl rfl) rfl (Jf (Ja (hK3 (Ek rfl (fun h4=>?_) (fun h4=>?_)))))))))))))))
 ·
  refine Jd fun _ hK4 _=>(Jb (Jg (Je rfl) rfl (Jf (Ja (hK4 (Jt (Jn (Jy rfl (Res.tmp rfl) fun w hH=>?_))))))));replace hH:=hH.sublist (List.Sublist.refl _);have e1:=hxs.none_nil h4;subst e1;exact ⟨none,0,rfl,hH.own0 2 1⟩
 ·
  refine Jo (Ja (hK2 (Jd fun _ hK5 _=>(Jb (EX (MK.lit0I u24 sz2) rfl fun qo5 co5=>(Jg (Jc rfl) rfl (J.appendHI u24 ze2 sz2 by2 rfl rfl hxs (by simp;omega) At.z (fun _ _=>At.z) rfl fun qo7 co7=>(Jg (Je rfl) rfl (Jf (Ja (hK5 (Jt (Jy rfl (Res.tmp rfl) fun w hH=>?_)))))))))))));replace hH:=hH.sublist (.cons_cons _ (List.Sublist.refl _));exact ⟨_,_,rfl,hH⟩
def freeD (ds:List Int):List Int:=if isDeg ds then ds else []
def freeF (ds:List Int):List (List Term):=if isDeg ds then List.replicate ds.length [] else []
def freeC (ds:List Int):Int:=if isDeg ds then 0 else 1
theorem freeF_wf (ds:List Int):Wfss (freeF ds):=by
 unfold freeF
 split
 ·exact Wfss.nils _
 ·exact fun f hf=>by simp at hf
theorem freeF_nil (ds:List Int) : ∀i,(fm (freeF ds) i).length≤9223372036854775807:=fun i=>by
 unfold freeF fm
 split
 ·rw [List.getD_eq_getElem?_getD,List.getElem?_replicate]
  split <;> simp
 ·simp
theorem freeF_len (ds:List Int):(freeF ds).length≤8:=by
 unfold freeF
 split
 ·rename_i h;simpa using isDeg_len h
 ·simp
theorem freeD_len (ds:List Int):(freeD ds).length≤8:=by
 unfold freeD
 split
 ·rename_i h;exact isDeg_len h
 ·simp
theorem sFreeAlgebra_c {B:World} {H0 H:HP} {L:List SA} {w:World} {qds:Option Addr} {cds:Nat} {ds:List Int} (hds:Ints H qds ds) (hn:ds.length≤1048576) (hH:Hp B H0 H L w):Calls Tryz.prog 14 [.slice qds ds.length cds].toArray w fun e w'=>∃qd cd qf cf vs,e = .returned (.tuple #[.agg [.slice qd (freeD ds).length cd,.slice qf (freeF ds).length cf].toArray,.int .i64 (freeC ds)])∧Hp B H0 H (own 2 1 qd (freeD ds).length cd (intsC (freeD ds))::ownFs 42 89 qf cf vs (freeF ds)::L) w':=by
 refine JD Tryz.func14 rfl 10 rfl rfl [(0,.slice qds ds.length cds)] rfl hH ?_;clear hH;refine Jd fun _ hK1 _=>(Jb (JG ze27 rfl fun g2=>(Jg (Je rfl) rfl (Jf (Ja (hK1 (Jd fun _ hK2 _=>(Jd fun _ hK3 _=>(Jb (Jg (Jc rfl) rfl (Jz fn40 rfl rfl fun w hH=>(l01Degrees_c hds (by omega) hH).mono ?_)))))))))));rintro _ w ⟨rfl,hH⟩;refine ⟨_,rfl,fun a hF=>JL hF hH ?_⟩;refine Jg (Er rfl) rfl (Jf (Ja (hK3 (Ek rfl (fun h6=>?_) (fun h6=>?_)))))
 ·
  refine Jd fun _ hK4 _=>(Jb (Jg (JQ bz27) rfl (Jk rfl rfl (by first | exact bytesC_one _ | exact intsC_one _ | exact Term.c_one _ | simp [Value.oneCell']) (by simpa [*] using sz27) (by simp [*]) At.z (Jg (Je rfl) rfl (Jf (Ja (hK4 (Jt (Jn (JV rfl (Res.agg rfl At.z (by simpa [*] using ag27)) (Res.tmp rfl) fun w hH=>?_))))))))));replace hH:=hH.sublist (.cons _ (List.Sublist.refl _));have e1:freeD ds=[]:=if_neg (by rw [nott h6];simp);have e2:freeF ds=[]:=if_neg (by rw [nott h6];simp);have e3:freeC ds=1:=if_neg (by rw [nott h6];simp);rw [e1,e2,e3];exact ⟨none,0,none,0,nilVs,rfl,(hH.ownFsNil 42 89).own0 2 1⟩
 ·
  refine Jo (Ja (hK2 (Jd fun _ hK5 _=>(Jb (Jg (Jc rfl) rfl (Jz fn41 rfl rfl fun w hH=>(l02Free_c hds (by omega) hH).mono ?_))))));rintro _ w ⟨qdo9,cdo9,qfo9,cfo9,vso9,rfl,hH⟩;refine ⟨_,rfl,fun a hF=>JL hF hH ?_⟩;refine Jk rfl rfl (by first | exact bytesC_one _ | exact intsC_one _ | exact Term.c_one _ | simp [Value.oneCell']) (by simpa [*] using sz27) (by simp [*]) (.s (.s .z)) (Jg (Je rfl) rfl (Jf (Ja (hK5 (Jt (JV rfl (Res.agg rfl (.s (.s .z)) (by simpa [*] using ag27)) (Res.tmp rfl) fun w hH=>?_))))));replace hH:=hH.sublist (.cons_cons _ (.cons_cons _ (.cons _ (List.Sublist.refl _))));have e1:freeD ds=ds:=if_pos (notf h6);have e2:freeF ds=List.replicate ds.length []:=if_pos (notf h6);have e3:freeC ds=0:=if_pos (notf h6);rw [e1,e2,e3];exact ⟨_,_,_,_,_,rfl,hH⟩
theorem FreeAlgebra_c {B:World} {H0 H:HP} {L:List SA} {w:World} {qds:Option Addr} {cds:Nat} {ds:List Int} (hds:Ints H qds ds) (hn:ds.length≤1048576) (hH:Hp B H0 H L w):Calls Tryz.prog 13 [.slice qds ds.length cds].toArray w fun e w'=>∃qd cd qf cf vs,e = .returned (.tuple #[.agg [.slice qd (freeD ds).length cd,.slice qf (freeF ds).length cf].toArray,.int .i64 (freeC ds)])∧Hp B H0 H (own 2 1 qd (freeD ds).length cd (intsC (freeD ds))::ownFs 42 89 qf cf vs (freeF ds)::L) w':=by
 refine JD Tryz.func13 rfl 14 rfl rfl [(0,.slice qds ds.length cds)] rfl hH ?_;clear hH;refine Jd fun _ hK1 _=>(Jb (JG ze27 rfl fun g2=>(Jg (Je rfl) rfl (Jf (Ja (hK1 (Jd fun _ hK2 _=>(Jd fun _ hK3 _=>(Jb (Jg (Jc rfl) rfl (Jz fn38 rfl rfl fun w hH=>(AreDegrees_c hds (by omega) hH).mono ?_)))))))))));rintro _ w ⟨rfl,hH⟩;refine ⟨_,rfl,fun a hF=>JL hF hH ?_⟩;refine Jg (Er rfl) rfl (Jf (Ja (hK3 (Ek rfl (fun h6=>?_) (fun h6=>?_)))))
 ·
  refine Jd fun _ hK4 _=>(Jb (Jg (JQ bz27) rfl (Jk rfl rfl (by first | exact bytesC_one _ | exact intsC_one _ | exact Term.c_one _ | simp [Value.oneCell']) (by simpa [*] using sz27) (by simp [*]) At.z (Jg (Je rfl) rfl (Jf (Ja (hK4 (Jt (Jn (JV rfl (Res.agg rfl At.z (by simpa [*] using ag27)) (Res.tmp rfl) fun w hH=>?_))))))))));replace hH:=hH.sublist (.cons _ (List.Sublist.refl _));have e1:freeD ds=[]:=if_neg (by rw [nott h6];simp);have e2:freeF ds=[]:=if_neg (by rw [nott h6];simp);have e3:freeC ds=1:=if_neg (by rw [nott h6];simp);rw [e1,e2,e3];exact ⟨none,0,none,0,nilVs,rfl,(hH.ownFsNil 42 89).own0 2 1⟩
 ·
  refine Jo (Ja (hK2 (Jd fun _ hK5 _=>(Ev [[], [0], [], [2], [3]] (by kernel_rfl) (JB (fun gh=>Jc rfl) (HJ.callN fn39 (fun gh=>rfl) (fun w X hH=>CloneI_c hds (by omega) hH) (JB (fun gh=>Jc rfl) (JB (fun gh=>Jr u24 rfl rfl) (HJ.mk (fun gh=>MK.makeF 89 u25 ze42 sz42 by42 rfl rfl rfl rfl (by omega)) (Ee 5 2 foll0 (by kernel_rfl) rfl rfl fun gh=>(Eu (us':=(8,_)::(9,_)::(10,_)::(11,_)::(12,_)::_) (L':=_::_::_) rfl rfl (Jg (EO rfl rfl (fun w=>bd27_0_1 _ _ _ _ _ _ w)) rfl (Jk rfl rfl (by first | exact bytesC_one _ | exact intsC_one _ | exact Term.c_one _ | simp [Value.oneCell']) (by simpa [*] using sz27) (by simp [*]) (.s (.s .z)) (Jf (Ef ?_)))))))))))))));refine JH (Je rfl) rfl (Ej (Ja (hK5 (Jt (JV rfl (Res.agg rfl (.s (.s .z)) (by simpa [*] using ag27)) (Res.tmp rfl) fun w hH=>?_)))));replace hH:=hH.sublist (.cons_cons _ (.cons_cons _ (.cons _ (List.Sublist.refl _))));have e1:freeD ds=ds:=if_pos (notf h6);have e2:freeF ds=List.replicate ds.length []:=if_pos (notf h6);have e3:freeC ds=0:=if_pos (notf h6);rw [e1,e2,e3];exact ⟨_,_,_,_,_,rfl,hH⟩
theorem bz42 : ∀w,(Instr.build 42 #[]).run Tryz.prog w = .ok (.agg [.slice none 0 0].toArray) w:=fun _=>by kernel_rfl
def inDeg (ds:List Int) (n:Int) (t:Term):Bool:=decide (wsum ds t.mono ds.length=n)
def part (ds:List Int) (ts:List Term) (n:Int):List Term:=ts.filter (inDeg ds n)
theorem take_tm {ts:List Term} {k:Nat} (hk:k<ts.length):ts.take (k+1)=ts.take k++[tm ts k]:=by
 rw [List.take_succ_eq_append_getElem hk]
 simp [tm,List.getD_eq_getElem?_getD,List.getElem?_eq_getElem hk]
theorem tm_eq {xs:List Term} {j:Nat} (hj:j<xs.length):xs[j]=tm xs j:=by simp [tm,List.getD_eq_getElem?_getD,List.getElem?_eq_getElem hj]
theorem Hp.weaken {B:World} {H0 H H2:HP} {L:List SA} {w:World} (h:Hp B H0 H2 L w) (hle:Le H H2) (ho : ∀b,b<B.heap.size→H b=H0 b) (h1:Le H0 H):Hp B H0 H L w:=
 ⟨h.below,fun b o hb=>h.agree b o (hle b o hb),ho,h1,fun A hA=>⟨(h.objs A hA).1,fun b hb=>⟨((h.objs A hA).2 b hb).1,((h.objs A hA).2 b hb).2.1,by
  cases e:H b with
  | none=>rfl
  | some o=>have:=hle b o e;rw [((h.objs A hA).2 b hb).2.2] at this;cases this⟩⟩,h.sep⟩
abbrev Pw:=List Int
abbrev Sm:=List (Pw × Int)
theorem tmod_p (x:Int) : ∃r,x.tmod 10007=x - 10007 * r:=⟨x.tdiv 10007,by have:=Int.tmod_add_mul_tdiv x 10007;omega⟩
theorem tmod_bd (x:Int) : -10007<x.tmod 10007∧x.tmod 10007<10007:=by
 rcases Int.le_total 0 x with h | h
 ·rw [Int.tmod_eq_emod_of_nonneg h]
  omega
 ·have e:x = -(-x):=by omega
  rw [e,Int.neg_tmod,Int.tmod_eq_emod_of_nonneg (by omega)]
  omega
def fld (x:Int):Int:=(x.tmod 10007+10007).tmod 10007
theorem fld_eq (x:Int):fld x=x % 10007:=by
 unfold fld;obtain ⟨r,hr⟩:=tmod_p x;have hb:=tmod_bd x;rw [Int.tmod_eq_emod_of_nonneg (by omega)]
 omega
theorem fld_bd (x:Int):0≤fld x∧fld x≤10006:=by rw [fld_eq];omega
theorem fld_tmod (a x:Int):fld (a+x.tmod 10007)=fld (a+x):=by
 rw [fld_eq,fld_eq];obtain ⟨r,hr⟩:=tmod_p x
 omega
theorem fld_fld (a x:Int):fld (a+fld x)=fld (a+x):=by rw [fld_eq,fld_eq,fld_eq];omega
theorem first_of (f:Nat→Bool) : ∀n:Nat,(∀j,j<n→f j=false)∨∃k,k<n∧f k=true∧∀j,j<k→f j=false
 | 0=>.inl fun j hj=>by omega
 | n+1=>by
  rcases first_of f n with h | ⟨k,h1,h2,h3⟩
  ·cases hb:f n with
   | true=>exact .inr ⟨n,by omega,hb,h⟩
   | false=>exact .inl (upto h hb)
  ·exact .inr ⟨k,by omega,h2,h3⟩
theorem before_iff {p q:Pw}:before p q=true↔∃k,k<8∧(∀j,j<k→p.getD j 0=q.getD j 0)∧q.getD k 0<p.getD k 0:=by
 constructor
 ·intro h
  rcases first_of (fun j=>decide (p.getD j 0≠q.getD j 0)) 8 with h1 | ⟨k,h1,h2,h3⟩
  ·rw [before_miss fun j hj=>by simpa using h1 j hj] at h
   cases h
  ·have e : ∀j,j<k→p.getD j 0=q.getD j 0:=fun j hj=>by simpa using h3 j hj
   rw [before_hit h1 e (by simpa using h2)] at h;exact ⟨k,h1,e,by simpa using h⟩
 ·rintro ⟨k,h1,h2,h3⟩;rw [before_hit h1 h2 (by omega)]
  simpa using h3
theorem before_irr (p:Pw):before p p=false:=before_miss fun _ _=>rfl
theorem before_tr {p q r:Pw} (h1:before p q=true) (h2:before q r=true):before p r=true:=by
 obtain ⟨k,a1,a2,a3⟩:=before_iff.1 h1;obtain ⟨m,b1,b2,b3⟩:=before_iff.1 h2;refine before_iff.2 ?_
 rcases Nat.lt_trichotomy k m with h | h | h
 ·exact ⟨k,a1,fun j hj=>by rw [a2 j hj,b2 j (by omega)],by rw [← b2 k h];exact a3⟩
 ·subst h;exact ⟨k,a1,fun j hj=>by rw [a2 j hj,b2 j hj],by omega⟩
 ·exact ⟨m,b1,fun j hj=>by rw [a2 j (by omega),b2 j hj],by rw [a2 m h];exact b3⟩
theorem before_ne {p q:Pw} (h:before p q=true):p≠q:=fun e=>by subst e;rw [before_irr] at h;cases h
theorem before_tot {p q:Pw} (hp:p.length=8) (hq:q.length=8) (h1:before p q=false) (h2:before q p=false):p=q:=by
 refine list_eq_of (by omega) fun j hj=>?_
 rcases first_of (fun j=>decide (p.getD j 0≠q.getD j 0)) 8 with h | ⟨k,a1,a2,a3⟩
 ·simpa using h j (by omega)
 ·have e : ∀j,j<k→p.getD j 0=q.getD j 0:=fun j hj=>by simpa using a3 j hj
  have hne:p.getD k 0≠q.getD k 0:=by simpa using a2
  rw [before_hit a1 e hne] at h1;rw [before_hit a1 (fun j hj=>(e j hj).symm) (Ne.symm hne)] at h2;have a:=of_decide_eq_false h1;have b:=of_decide_eq_false h2
  omega
structure Pok (M:Int) (p:Pw):Prop where
 len:p.length=8
 bd : ∀j,0≤p.getD j 0∧p.getD j 0≤M
theorem Pok.small {M:Int} {p:Pw} (h:Pok M p) (hM:M≤1000000):Small p:=fun j=>by have:=h.bd j;omega
theorem Pok.mono {M M':Int} {p:Pw} (h:Pok M p) (hM:M≤M'):Pok M' p:=⟨h.len,fun j=>by have:=h.bd j;omega⟩
structure Sok (M:Int) (s:Sm):Prop where
 srt:s.Pairwise fun x y=>before x.1 y.1=true
 key : ∀x∈s,Pok M x.1
 val : ∀x∈s,1≤x.2∧x.2≤10006
theorem Sok.nil {M:Int}:Sok M []:=⟨List.Pairwise.nil,fun _ h=>by simp at h,fun _ h=>by simp at h⟩
theorem Sok.tail {M:Int} {x:Pw × Int} {s:Sm} (h:Sok M (x::s)):Sok M s:=⟨(List.pairwise_cons.1 h.srt).2,fun y hy=>h.key y (by simp [hy]),fun y hy=>h.val y (by simp [hy])⟩
theorem Sok.nodup {M:Int} {s:Sm} (h:Sok M s):(s.map (·.1)).Nodup:=by
 rw [List.Nodup,List.pairwise_map];exact h.srt.imp fun h=>before_ne h
def cf:Sm→Pw→Int
 | [],_=>0
 | x::s,p=>if x.1=p then x.2 else cf s p
theorem look_cf (s:Sm) (p:Pw):(look s p).elim (Value.int .i64 0) (Value.int .i64) = .int .i64 (cf s p):=by
 induction s with
 | nil=>rfl
 | cons x s ih=>
  unfold look at ih ⊢;rw [List.find?_cons]
  by_cases e:x.1=p
  ·rw [decide_eq_true e]
   simp [cf,e]
  ·rw [decide_eq_false e];simp only [cf,if_neg e];exact ih
theorem cf_none {s:Sm} {p:Pw} (h : ∀x∈s,x.1≠p):cf s p=0:=by
 induction s with
 | nil=>rfl
 | cons x s ih=>
  simp only [cf];rw [if_neg (h x (by simp)),ih fun y hy=>h y (by simp [hy])]
theorem cf_bd {M:Int} {s:Sm} (h:Sok M s) (p:Pw):0≤cf s p∧cf s p≤10006:=by
 induction s with
 | nil=>simp [cf]
 | cons x s ih=>
  simp only [cf];have:=h.val x (by simp)
  split
  ·omega
  ·exact ih h.tail
theorem Sok.ext {M N:Int} : ∀{s t:Sm},Sok M s→Sok N t→(∀p,cf s p=cf t p)→s=t
 | [], [],_,_,_=>rfl
 | [],y::t,_,ht,h=>by
  have h1:=h y.1
  have h2:=ht.val y (by simp)
  simp [cf] at h1
  omega
 | x::s, [],hs,_,h=>by
  have h1:=h x.1
  have h2:=hs.val x (by simp)
  simp [cf] at h1
  omega
 | x::s,y::t,hs,ht,h=>by
  have sx:=(List.pairwise_cons.1 hs.srt).1
  have sy:=(List.pairwise_cons.1 ht.srt).1
  have vx:=hs.val x (by simp)
  have vy:=ht.val y (by simp)
  have hxy:x.1=y.1:=by
   refine before_tot (hs.key x (by simp)).len (ht.key y (by simp)).len ?_ ?_
   ·cases hb:before x.1 y.1 with
    | false=>rfl
    | true=>
     have h1:=h x.1
     rw [cf_none (s:=y::t) (fun z hz=>by
      rcases List.mem_cons.1 hz with rfl | hz
      ·exact (before_ne hb).symm
      ·exact (before_ne (before_tr hb (sy z hz))).symm)] at h1
     simp [cf] at h1
     omega
   ·cases hb:before y.1 x.1 with
    | false=>rfl
    | true=>
     have h1:=h y.1
     rw [cf_none (s:=x::s) (fun z hz=>by
      rcases List.mem_cons.1 hz with rfl | hz
      ·exact (before_ne hb).symm
      ·exact (before_ne (before_tr hb (sx z hz))).symm)] at h1
     simp [cf] at h1
     omega
  have h2:x.2=y.2:=by
   have h1:=h x.1
   simp only [cf,if_true] at h1
   rwa [if_pos hxy.symm] at h1
  have e:x=y:=by cases x;cases y;simp_all
  subst e
  rw [Sok.ext hs.tail ht.tail fun p=>?_]
  by_cases hp:x.1=p
  ·subst hp
   rw [cf_none fun z hz=>(before_ne (sx z hz)).symm,cf_none fun z hz=>(before_ne (sy z hz)).symm]
  ·have h1:=h p
   simp only [cf] at h1
   rwa [if_neg hp,if_neg hp] at h1
def addS:Sm→Pw→Int→Sm
 | [],p,k=>if fld k=0 then [] else [(p,fld k)]
 | x::s,p,k=>if p=x.1 then (if fld (x.2+k)=0 then s else (p,fld (x.2+k))::s)
  else if before p x.1 then (if fld k=0 then x::s else (p,fld k)::x::s) else x::addS s p k
theorem addS_mem {p:Pw} {k:Int} : ∀{s:Sm} {y:Pw × Int},y∈addS s p k→y.1=p∨y∈s
 | [],y,h=>by
  simp only [addS] at h
  split at h
  ·simp at h
  ·simp at h;exact .inl (by rw [h])
 | x::s,y,h=>by
  simp only [addS] at h
  split at h
  ·split at h
   ·exact .inr (by simp [h])
   ·rcases List.mem_cons.1 h with h | h
    ·exact .inl (by rw [h])
    ·exact .inr (by simp [h])
  ·split at h
   ·split at h
    ·exact .inr h
    ·rcases List.mem_cons.1 h with h | h
     ·exact .inl (by rw [h])
     ·exact .inr h
   ·rcases List.mem_cons.1 h with h | h
    ·exact .inr (by simp [h])
    ·rcases addS_mem h with h | h
     ·exact .inl h
     ·exact .inr (by simp [h])
theorem Sok.add {M:Int} {p:Pw} (hp:Pok M p) (k:Int) : ∀{s:Sm},Sok M s→Sok M (addS s p k)
 | [],_=>by
  simp only [addS]
  split
  ·exact Sok.nil
  ·have:=fld_bd k
   exact ⟨by simp,fun x hx=>by simp at hx;rw [hx];exact hp,fun x hx=>by simp at hx;rw [hx];simp;omega⟩
 | x::s,h=>by
  have sx:=(List.pairwise_cons.1 h.srt).1
  simp only [addS]
  split
  ·rename_i e
   split
   ·exact h.tail
   ·have:=fld_bd (x.2+k)
    refine ⟨List.pairwise_cons.2 ⟨fun y hy=>by rw [e];exact sx y hy,h.tail.srt⟩,fun y hy=>?_,fun y hy=>?_⟩
    ·rcases List.mem_cons.1 hy with rfl | hy
     ·exact hp
     ·exact h.tail.key y hy
    ·rcases List.mem_cons.1 hy with rfl | hy
     ·simp;omega
     ·exact h.tail.val y hy
  ·rename_i e
   split
   ·rename_i hb
    split
    ·exact h
    ·have:=fld_bd k
     refine ⟨List.pairwise_cons.2 ⟨fun y hy=>?_,h.srt⟩,fun y hy=>?_,fun y hy=>?_⟩
     ·rcases List.mem_cons.1 hy with rfl | hy
      ·exact hb
      ·exact before_tr hb (sx y hy)
     ·rcases List.mem_cons.1 hy with rfl | hy
      ·exact hp
      ·exact h.key y hy
     ·rcases List.mem_cons.1 hy with rfl | hy
      ·simp;omega
      ·exact h.val y hy
   ·rename_i hb
    have hb':before x.1 p=true:=by
     cases hc:before x.1 p with
     | true=>rfl
     | false=>exact absurd (before_tot hp.len (h.key x (by simp)).len (by simpa using hb) hc) e
    have ih:=Sok.add hp k h.tail
    refine ⟨List.pairwise_cons.2 ⟨fun y hy=>?_,ih.srt⟩,fun y hy=>?_,fun y hy=>?_⟩
    ·rcases addS_mem hy with hy | hy
     ·rw [hy];exact hb'
     ·exact sx y hy
    ·rcases List.mem_cons.1 hy with rfl | hy
     ·exact h.key _ (by simp)
     ·exact ih.key y hy
    ·rcases List.mem_cons.1 hy with rfl | hy
     ·exact h.val _ (by simp)
     ·exact ih.val y hy
theorem cf_add {M:Int} {p:Pw} (k:Int) (q:Pw) : ∀{s:Sm},Sok M s→cf (addS s p k) q=if p=q then fld (cf s p+k) else cf s q
 | [],_=>by
  simp only [addS,cf]
  rw [Int.zero_add]
  by_cases e:p=q
  ·rw [if_pos e]
   split
   ·rename_i h;rw [h];rfl
   ·simp [cf,e]
  ·rw [if_neg e]
   split
   ·rfl
   ·simp [cf,e]
 | x::s,h=>by
  have sx:=(List.pairwise_cons.1 h.srt).1
  have nx : ∀r,r=x.1→cf s r=0:=fun r hr=>cf_none fun z hz=>by rw [hr];exact (before_ne (sx z hz)).symm
  simp only [addS]
  by_cases e:p=x.1
  ·rw [if_pos e]
   have e1:cf (x::s) p=x.2:=by simp [cf,e]
   rw [e1]
   by_cases e2:p=q
   ·rw [if_pos e2]
    split
    ·rename_i hz
     rw [hz,nx q (by rw [← e2,e])]
    ·simp [cf,e2]
   ·rw [if_neg e2]
    have e3:cf (x::s) q=cf s q:=by simp only [cf];rw [if_neg (by rw [← e];exact e2)]
    rw [e3]
    split
    ·rfl
    ·simp [cf,e2]
  ·rw [if_neg e]
   have e1:cf (x::s) p=cf s p:=by simp only [cf];rw [if_neg (Ne.symm e)]
   split
   ·rename_i hb
    have np:cf s p=0:=cf_none fun z hz=>(before_ne (before_tr hb (sx z hz))).symm
    rw [e1,np,Int.zero_add]
    by_cases e2:p=q
    ·rw [if_pos e2]
     split
     ·rename_i hz
      rw [hz,← e2,e1,np]
     ·simp [cf,e2]
    ·rw [if_neg e2]
     split
     ·rfl
     ·simp only [cf];rw [if_neg e2]
   ·simp only [cf]
    rw [cf_add k q h.tail,if_neg (Ne.symm e)]
    by_cases e2:p=q
    ·rw [if_pos e2,if_neg (by rw [← e2];exact Ne.symm e),if_pos e2]
    ·rw [if_neg e2,if_neg e2]
theorem addS_congr {k k':Int} (h : ∀a,fld (a+k)=fld (a+k')) (p:Pw) : ∀s:Sm,addS s p k=addS s p k'
 | []=>by
  have h0:=h 0
  rw [Int.zero_add,Int.zero_add] at h0
  simp only [addS,h0]
 | x::s=>by
  have h0:=h 0
  rw [Int.zero_add,Int.zero_add] at h0
  simp only [addS,h0,h x.2,addS_congr h p s]
def acc (s:Sm) (l:Sm):Sm:=l.foldl (fun a x=>addS a x.1 x.2) s
theorem acc_nil (s:Sm):acc s []=s:=rfl
theorem acc_cons (s:Sm) (x:Pw × Int) (l:Sm):acc s (x::l)=acc (addS s x.1 x.2) l:=rfl
theorem acc_app (s l m:Sm):acc s (l++m)=acc (acc s l) m:=by unfold acc;rw [List.foldl_append]
theorem acc_one (s l:Sm) (x:Pw × Int):acc s (l++[x])=addS (acc s l) x.1 x.2:=by rw [acc_app];rfl
theorem Sok.acc {M:Int} : ∀{l s:Sm},Sok M s→(∀x∈l,Pok M x.1)→Sok M (G.acc s l)
 | [],_,h,_=>h
 | x::l,s,h,hl=>by
  rw [acc_cons]
  exact Sok.acc (h.add (hl x (by simp)) x.2) fun y hy=>hl y (by simp [hy])
def tot_:Sm→Pw→Int
 | [],_=>0
 | x::l,p=>(if x.1=p then x.2 else 0)+tot_ l p
theorem tot_perm {l m:Sm} (h:l.Perm m) (p:Pw):tot_ l p=tot_ m p:=by
 induction h with
 | nil=>rfl
 | cons x _ ih=>simp only [tot_,ih]
 | swap x y l=>simp only [tot_];omega
 | trans _ _ h1 h2=>rw [h1,h2]
theorem cf_acc {M:Int} (p:Pw) : ∀{l s:Sm},Sok M s→(∀x∈l,Pok M x.1)→cf (acc s l) p=fld (cf s p+tot_ l p)
 | [],s,h,_=>by
  have:=cf_bd h p
  simp only [acc_nil,tot_]
  rw [fld_eq]
  omega
 | x::l,s,h,hl=>by
  rw [acc_cons,cf_acc p (h.add (hl x (by simp)) x.2) fun y hy=>hl y (by simp [hy]),cf_add x.2 p h]
  simp only [tot_]
  by_cases e:x.1=p
  ·rw [if_pos e,if_pos e,e]
   simp only [fld_eq]
   omega
  ·rw [if_neg e,if_neg e,Int.zero_add]
theorem acc_perm {M:Int} {s l m:Sm} (h:Sok M s) (hl : ∀x∈l,Pok M x.1) (hp:l.Perm m):acc s l=acc s m:=
 Sok.ext (h.acc hl) (h.acc fun x hx=>hl x (hp.mem_iff.2 hx)) fun p=>by rw [cf_acc p h hl,cf_acc p h fun x hx=>hl x (hp.mem_iff.2 hx),tot_perm hp]
theorem acc_congr {α:Type} {f g:α→Pw × Int} : ∀{l:List α} (s:Sm),(∀x∈l,(f x).1=(g x).1∧∀a,fld (a+(f x).2)=fld (a+(g x).2))→acc s (l.map f)=acc s (l.map g)
 | [],_,_=>rfl
 | x::l,s,h=>by
  obtain ⟨h1,h2⟩:=h x (by simp)
  simp only [List.map_cons,acc_cons]
  rw [h1,addS_congr h2,acc_congr _ fun y hy=>h y (by simp [hy])]
theorem filt_ne {s:Sm} {p:Pw} (h : ∀x∈s,x.1≠p):(s.filter fun x=>decide (x.1≠p))=s:=by
 rw [List.filter_eq_self];intro x hx
 simpa using h x hx
theorem put_add {M:Int} {p:Pw} (hp:Pok M p) (k:Int) : ∀{s:Sm},Sok M s→fld (cf s p+k)≠0→(putM s p (fld (cf s p+k))).Perm (addS s p k)
 | [],_,hz=>by
  simp only [cf,Int.zero_add] at hz ⊢
  simp only [addS]
  rw [if_neg hz]
  exact List.Perm.refl _
 | x::s,h,hz=>by
  have sx:=(List.pairwise_cons.1 h.srt).1
  simp only [addS]
  by_cases e:p=x.1
  ·have e1:cf (x::s) p=x.2:=by simp [cf,e]
   rw [e1] at hz ⊢
   rw [if_pos e,if_neg hz]
   unfold putM
   rw [List.filter_cons,if_neg (by simp [e]),filt_ne fun z hz=>by rw [e];exact (before_ne (sx z hz)).symm]
  ·have e1:cf (x::s) p=cf s p:=by simp only [cf];rw [if_neg (Ne.symm e)]
   rw [e1] at hz ⊢
   rw [if_neg e]
   split
   ·rename_i hb
    have np : ∀z∈s,z.1≠p:=fun z hz=>(before_ne (before_tr hb (sx z hz))).symm
    rw [cf_none np,Int.zero_add] at hz ⊢
    rw [if_neg hz]
    unfold putM
    rw [filt_ne fun z hz=>by
     rcases List.mem_cons.1 hz with rfl | hz
     ·exact Ne.symm e
     ·exact np z hz]
   ·have ih:=put_add hp k h.tail hz
    unfold putM at ih ⊢
    rw [List.filter_cons,if_pos (by simpa using Ne.symm e)]
    exact (List.Perm.swap _ _ _).trans (ih.cons x)
theorem del_add {M:Int} {p:Pw} (hp:Pok M p) (k:Int) : ∀{s:Sm},Sok M s→fld (cf s p+k)=0→(delM s p).Perm (addS s p k)
 | [],_,hz=>by
  simp only [cf,Int.zero_add] at hz
  simp only [addS]
  rw [if_pos hz]
  exact List.Perm.refl _
 | x::s,h,hz=>by
  have sx:=(List.pairwise_cons.1 h.srt).1
  simp only [addS]
  by_cases e:p=x.1
  ·have e1:cf (x::s) p=x.2:=by simp [cf,e]
   rw [e1] at hz
   rw [if_pos e,if_pos hz]
   unfold delM
   rw [List.filter_cons,if_neg (by simp [e]),filt_ne fun z hz=>by rw [e];exact (before_ne (sx z hz)).symm]
  ·have e1:cf (x::s) p=cf s p:=by simp only [cf];rw [if_neg (Ne.symm e)]
   rw [e1] at hz
   rw [if_neg e]
   split
   ·rename_i hb
    have np : ∀z∈s,z.1≠p:=fun z hz=>(before_ne (before_tr hb (sx z hz))).symm
    rw [cf_none np,Int.zero_add] at hz
    rw [if_pos hz]
    unfold delM
    rw [filt_ne fun z hz=>by
     rcases List.mem_cons.1 hz with rfl | hz
     ·exact Ne.symm e
     ·exact np z hz]
   ·have ih:=del_add hp k h.tail hz
    unfold delM at ih ⊢
    rw [List.filter_cons,if_pos (by simpa using Ne.symm e)]
    exact ih.cons x
def addp (p q:Pw):Pw:=(List.range 8).map fun i=>p.getD i 0+q.getD i 0
@[simp] theorem addp_len (p q:Pw):(addp p q).length=8:=by simp [addp]
theorem getD_ge {p:Pw} {j:Nat} (h:p.length≤j):p.getD j 0=0:=by rw [List.getD_eq_getElem?_getD,List.getElem?_eq_none h];rfl
theorem addp_get {p q:Pw} (hp:p.length=8) (hq:q.length=8) (j:Nat):(addp p q).getD j 0=p.getD j 0+q.getD j 0:=by
 rcases Nat.lt_or_ge j 8 with h | h
 ·simp [addp,List.getD_eq_getElem?_getD,h]
 ·rw [getD_ge (by simp;omega),getD_ge (by omega),getD_ge (by omega)]
  rfl
theorem Pok.add {M N:Int} {p q:Pw} (hp:Pok M p) (hq:Pok N q):Pok (M+N) (addp p q):=⟨by simp,fun j=>by
 rw [addp_get hp.len hq.len]
 have:=hp.bd j
 have:=hq.bd j
 omega⟩
def oin (ds p:Pw) (i:Nat):Nat→Int
 | 0=>0
 | m+1=>oin ds p i m+(ds.getD (i+1+m) 0).tmod 2 * p.getD (i+1+m) 0
def oddTo (ds p q:Pw):Nat→Int
 | 0=>0
 | i+1=>oddTo ds p q i+(if (ds.getD i 0).tmod 2≠0∧0<q.getD i 0 then oin ds p i (ds.length - (i+1)) else 0)
def hitAt (ds p q:Pw) (i:Nat):Bool:=decide ((ds.getD i 0).tmod 2≠0) && (decide (0<p.getD i 0) && decide (0<q.getD i 0))
def hits (ds p q:Pw):Bool:=(List.range ds.length).any (hitAt ds p q)
def sgn (ds p q:Pw):Int:=if hits ds p q then 0 else if (oddTo ds p q ds.length).tmod 2=1 then -1 else 1
theorem hits_yes {ds p q:Pw} {i:Nat} (hi:i<ds.length) (h:hitAt ds p q i=true):hits ds p q=true:=List.any_eq_true.2 ⟨i,List.mem_range.2 hi,h⟩
theorem hits_no {ds p q:Pw} (h : ∀i,i<ds.length→hitAt ds p q i=false):hits ds p q=false:=by
 unfold hits;rw [List.any_eq_false];intro i hi;rw [h i (List.mem_range.1 hi)]
 simp
theorem sgn_cases (ds p q:Pw):sgn ds p q=0∨sgn ds p q=1∨sgn ds p q = -1:=by
 unfold sgn
 split
 ·exact .inl rfl
 ·split
  ·exact .inr (.inr rfl)
  ·exact .inr (.inl rfl)
theorem deg2 {ds:Pw} (hd : ∀j,0≤ds.getD j 0∧ds.getD j 0≤12) (j:Nat):(ds.getD j 0).tmod 2=0∨(ds.getD j 0).tmod 2=1:=by
 have:=hd j;rw [Int.tmod_eq_emod_of_nonneg this.1]
 omega
theorem oin_bd {ds p:Pw} {M:Int} (hd : ∀j,0≤ds.getD j 0∧ds.getD j 0≤12) (hp : ∀j,0≤p.getD j 0∧p.getD j 0≤M) (i:Nat) : ∀m:Nat,0≤oin ds p i m∧oin ds p i m≤m * M
 | 0=>by simp [oin]
 | m+1=>by
  have h1:=oin_bd hd hp i m
  have h2:=hp (i+1+m)
  have e:((m+1:Nat):Int) * M=m * M+M:=by rw [Int.natCast_add,Int.add_mul];simp
  rw [e]
  simp only [oin]
  rcases deg2 hd (i+1+m) with h | h
  ·rw [h,Int.zero_mul];omega
  ·rw [h,Int.one_mul];omega
theorem oddTo_bd {ds p q:Pw} {M:Int} (hn:ds.length≤8) (hd : ∀j,0≤ds.getD j 0∧ds.getD j 0≤12) (hp : ∀j,0≤p.getD j 0∧p.getD j 0≤M) : ∀i:Nat,0≤oddTo ds p q i∧oddTo ds p q i≤i * (8 * M)
 | 0=>by simp [oddTo]
 | i+1=>by
  have h1:=oddTo_bd hn hd hp (q:=q) i
  have h2:=oin_bd hd hp i (ds.length - (i+1))
  have hM:=hp 0
  have h3:((ds.length - (i+1):Nat):Int) * M≤8 * M:=Int.mul_le_mul_of_nonneg_right (by omega) (by omega)
  have e:((i+1:Nat):Int) * (8 * M)=i * (8 * M)+8 * M:=by rw [Int.natCast_add,Int.add_mul];simp
  rw [e]
  simp only [oddTo]
  split <;> omega
def mul1 (ds:Pw) (x:Pw × Int) (t:Sm):Sm:=t.flatMap fun y=>if sgn ds x.1 y.1=0 then [] else [(addp x.1 y.1,(sgn ds x.1 y.1 * x.2 * y.2).tmod 10007)]
def mulL (ds:Pw) (s t:Sm):Sm:=s.flatMap fun x=>mul1 ds x t
def timesS (ds:Pw) (s t:Sm):Sm:=acc [] (mulL ds s t)
theorem mul1_mem {ds:Pw} {x:Pw × Int} {t:Sm} {z:Pw × Int} (h:z∈mul1 ds x t) : ∃y∈t,sgn ds x.1 y.1≠0∧z.1=addp x.1 y.1:=by
 obtain ⟨y,hy,hz⟩:=List.mem_flatMap.1 h
 split at hz
 ·simp at hz
 ·rename_i hs
  simp at hz
  exact ⟨y,hy,hs,by rw [hz]⟩
theorem mulL_mem {ds:Pw} {s t:Sm} {z:Pw × Int} (h:z∈mulL ds s t) : ∃x∈s,∃y∈t,sgn ds x.1 y.1≠0∧z.1=addp x.1 y.1:=by
 obtain ⟨x,hx,hz⟩:=List.mem_flatMap.1 h;obtain ⟨y,hy,h1,h2⟩:=mul1_mem hz;exact ⟨x,hx,y,hy,h1,h2⟩
theorem mulL_pok {ds:Pw} {s t:Sm} {M N:Int} (hs:Sok M s) (ht:Sok N t) : ∀z∈mulL ds s t,Pok (M+N) z.1:=fun z hz=>by
 obtain ⟨x,hx,y,hy,_,e⟩:=mulL_mem hz
 rw [e]
 exact (hs.key x hx).add (ht.key y hy)
theorem Sok.times {ds:Pw} {s t:Sm} {M N:Int} (hs:Sok M s) (ht:Sok N t):Sok (M+N) (timesS ds s t):=Sok.nil.acc (mulL_pok hs ht)
theorem mul1_perm {ds:Pw} {x:Pw × Int} {t t':Sm} (h:t.Perm t'):(mul1 ds x t).Perm (mul1 ds x t'):=h.flatMap_right _
theorem mulL_perm {ds:Pw} {s s' t:Sm} (h:s.Perm s'):(mulL ds s t).Perm (mulL ds s' t):=h.flatMap_right _
theorem mulL_mid {ds:Pw} {l1 l2:Sm} {x:Pw × Int} {t:Sm}:(mulL ds (l1++x::l2) t).Perm (mul1 ds x t++mulL ds (l1++l2) t):=by
 refine (mulL_perm List.perm_middle).trans ?_
 show (mul1 ds x t++mulL ds (l1++l2) t).Perm _
 exact List.Perm.refl _
theorem mul1_mid {ds:Pw} {x y:Pw × Int} {l1 l2:Sm}:(mul1 ds x (l1++y::l2)).Perm ((if sgn ds x.1 y.1=0 then [] else [(addp x.1 y.1,(sgn ds x.1 y.1 * x.2 * y.2).tmod 10007)])++mul1 ds x (l1++l2)):=
 mul1_perm List.perm_middle
def scl (t:Sm) (k:Int):Sm:=t.map fun y=>(y.1,(y.2 * k).tmod 10007)
theorem scl_key {t:Sm} {k:Int} {z:Pw × Int} (h:z∈scl t k) : ∃y∈t,z.1=y.1:=by
 obtain ⟨y,hy,rfl⟩:=List.mem_map.1 h;exact ⟨y,hy,rfl⟩
theorem scl_pok {M:Int} {t:Sm} (h:Sok M t) (k:Int) : ∀z∈scl t k,Pok M z.1:=fun z hz=>by
 obtain ⟨y,hy,e⟩:=scl_key hz
 rw [e]
 exact h.key y hy
theorem u83:Tryz.prog.underlying 83=some (TypeDesc.map 127 2):=by kernel_rfl
theorem zv2:ZeroV Tryz.prog 2 (.int .i64 0):=fun _=>by kernel_rfl
def pwE (p:Pw):Value:=.agg (intsC p).toArray
def pwOk (p:Pw):Prop:=p.length=8∧Small p
theorem pwOk_of {M:Int} {p:Pw} (h:Pok M p) (hM:M≤1000000):pwOk p:=⟨h.len,h.small hM⟩
theorem pwE_inj (x y:Pw) (h:pwE x=pwE y):x=y:=by
 unfold pwE intsC at h;have h1:=congrArg (fun v=>match v with | Value.agg cs=>cs.toList | _=>[]) h
 simp at h1
 exact (List.map_inj_right (fun a b h=>by injection h)).1 h1
theorem keyLits8 {P:Program} {t e:TypeId} {d:Nat} {p:Pw} (ht:P.underlying t=some (.array 8 e)) (he:P.underlying e=some (.int .i64)) (hc:P.cellsOf e=1) (hct:P.cellsOf t=8) (h:pwOk p) : ∃ls,P.keyLits (d+2) t (intsC p)=some ls:=by
 unfold Program.keyLits;rw [ht];simp only [intsC_length,hct,h.1,if_true]
 have key : ∀i,i<8→∃l,P.keyLits (d+1) e (((intsC p).drop (i * P.cellsOf e)).take (P.cellsOf e))=some l:=by
  intro i hi;have hb:=h.2 i;rw [hc,Nat.mul_one,List.drop_eq_getElem_cons (by simp [h.1];omega),List.take_succ_cons,List.take_zero]
  have e1:(intsC p)[i]'(by simp [h.1];omega) = .int .i64 (p.getD i 0):=by
   have:=intsC_get (m:=p) (i:=i) (by rw [h.1];omega);rw [List.getElem?_eq_getElem (by simp [h.1];omega)] at this;exact Option.some.inj this
  rw [e1];refine ⟨[.int .i64 (p.getD i 0)],?_⟩;generalize p.getD i 0=x at hb
  have hw:(Lit.int .i64 x).wf=true:=by
   simp [Lit.wf,IntKind.min,IntKind.max,IntKind.signed,IntKind.bits]
   omega
  unfold Program.keyLits;rw [he]
  simp [hw]
 have hm : ∀(l:List Nat),(∀i∈l,i<8)→∃r,l.mapM (fun i=>P.keyLits (d+1) e (((intsC p).drop (i * P.cellsOf e)).take (P.cellsOf e)))=some r:=by
  intro l
  induction l with
  | nil=>intro _;exact ⟨[],rfl⟩
  | cons i l ih=>
   intro hl;obtain ⟨a,ha⟩:=key i (hl i (by simp));obtain ⟨r,hr⟩:=ih fun j hj=>hl j (by simp [hj]);exact ⟨a::r,by simp [List.mapM_cons,ha,hr]⟩
 obtain ⟨r,hr⟩:=hm (List.range 8) fun i hi=>List.mem_range.1 hi;rw [hr];exact ⟨_,rfl⟩
theorem pwK:KeyT Tryz.prog 127 pwE pwOk:=KeyT.of (Go.Maps.Keyed.of_law (deep_law_laid (m:=5) (by kernel_rfl) (by decide) (of_decide_eq_true (by kernel_rfl)) (by kernel_rfl) (by kernel_rfl))) pwE_inj fun p hp=>by
 obtain ⟨ls,hl⟩:=keyLits8 (P:=Tryz.prog) (t:=127) (e:=3) (d:=Tryz.prog.types.size - 1) u127 u3 (by kernel_rfl) (by kernel_rfl) hp
 have e1:Tryz.prog.types.size - 1+2=Tryz.prog.types.size+1:=by kernel_rfl
 rw [e1] at hl
 have hc8:Tryz.prog.cellsOf 127=8:=by kernel_rfl
 have hf:(pwE p).formed Tryz.prog 127=true:=by
  simp [pwE,Value.formed,u127,hc8,hp.1]
 refine ⟨.string (keyBytes ls),?_⟩
 unfold keyOf
 rw [u127]
 simp only []
 have hkt:Tryz.prog.keyType 127=true:=by kernel_rfl
 rw [hkt,hf]
 simp only [Bool.and_self,if_true]
 have:(pwE p).cells.toList=intsC p:=by simp [pwE,Value.cells]
 rw [this,hl]
 rfl
abbrev SumH (H:HP) (v:Value) (s:Sm):Prop:=MapH pwE (Value.int .i64) pwOk H v s
abbrev osum (b:Nat) (s:Sm):SA:=omap pwE (Value.int .i64) pwOk b s
section
variable {P : Program} {ops : Array Oper} {Q : Exit → Act → World → Prop} {n : Nat} {B : World} {H0 H : HP} {rest : List Oper} {us : List (Nat × Value)} {L L' : List SA} {t : TypeId} {p : String} {af : Array Edge} {d : Nat} {x y z : Operand}
theorem PR.sumO {ty K:TypeId} {s:Sm} {q:Pw} {b:Nat} (hK:KeyT P K pwE pwOk) (hu:P.underlying ty=some (.map K 2)) (hz:ZeroV P 2 (.int .i64 0)) (hx:opv us x=some (.map (some b))) (hat:At L (osum b s) (osum b s) L) (hy:opv us y=some (.agg (intsC q).toArray)) (hk:pwOk q):PR P n B H0 us H L (.lookup ty x y false) t (.int .i64 (cf s q)):=by
 rw [← look_cf];exact PR.lookO hu hK hz hx hat hy hk
theorem J.permO {b:Nat} {s s':Sm} {L1:List SA} (hp:s.Perm s') (hat:At L (osum b s) (osum b s') L1) (k:J P ops Q n B H0 rest us H L1):J P ops Q n B H0 rest us H L:=fun a w hF hH=>k a w hF (hH.reAt hat (by
 obtain ⟨es,clock,h1,h2⟩:=(hH.objs _ hat.mem).1
 exact ⟨es,clock,h1,h2.perm hp⟩) fun _ h=>h)
theorem At.both {A A' A'':SA} (h:At L A A'' L') : ∃L1,At L A A' L1∧At L1 A' A'' L':=by
 induction h with
 | z=>exact ⟨_,.z,.z⟩
 | s _ ih=>
  obtain ⟨L1,h1,h2⟩:=ih;exact ⟨_,.s h1,.s h2⟩
theorem J.putP {ty K e:TypeId} {b:Nat} {s s':Sm} {q:Pw} {v:Int} (hK:KeyT P K pwE pwOk) (hu:P.underlying ty=some (.map K e)) (hx:opv us x=some (.map (some b))) (hy:opv us y=some (.agg (intsC q).toArray)) (hz:opv us z=some (.int .i64 v)) (hk:pwOk q) (hp:(putM s q v).Perm s') (hat:At L (osum b s) (osum b s') L') (kk:J P ops Q n B H0 rest us H L'):J P ops Q n B H0 (⟨none,.mapUpdate ty x y z,t,p,af,none⟩::rest) us H L:=by
 obtain ⟨L1,h1,h2⟩:=hat.both (A':=osum b (putM s q v));exact J.mapUpdate hu hK hx hy hz hk h1 (J.permO hp h2 kk)
theorem J.putAdd {ty K e:TypeId} {b:Nat} {s:Sm} {q:Pw} {M v k:Int} (hK:KeyT P K pwE pwOk) (hu:P.underlying ty=some (.map K e)) (hx:opv us x=some (.map (some b))) (hy:opv us y=some (.agg (intsC q).toArray)) (hz:opv us z=some (.int .i64 v)) (hk:pwOk q) (hs:Sok M s) (hq:Pok M q) (hv:v=fld (cf s q+k)) (h0:v≠0) (hat:At L (osum b s) (osum b (addS s q k)) L') (kk:J P ops Q n B H0 rest us H L'):J P ops Q n B H0 (⟨none,.mapUpdate ty x y z,t,p,af,none⟩::rest) us H L:=by
 subst hv;exact J.putP hK hu hx hy hz hk (put_add hq k hs h0) hat kk
theorem J.putOne {ty K e:TypeId} {b:Nat} {q:Pw} {v:Int} (hK:KeyT P K pwE pwOk) (hu:P.underlying ty=some (.map K e)) (hx:opv us x=some (.map (some b))) (hy:opv us y=some (.agg (intsC q).toArray)) (hz:opv us z=some (.int .i64 v)) (hk:pwOk q)
 (hat:At L (osum b []) (osum b [(q,v)]) L') (kk:J P ops Q n B H0 rest us H L'):J P ops Q n B H0 (⟨none,.insert ty x y z,t,p,af,none⟩::rest) us H L:=J.insert hu hK hx hy hz hk hat kk
theorem J.delAdd {ty tk K e:TypeId} {b:Nat} {s:Sm} {q:Pw} {M k:Int} (hK:KeyT P K pwE pwOk) (hu:P.underlying ty=some (.map K e)) (hx:opv us x=some (.map (some b))) (hy:opv us y=some (.agg (intsC q).toArray)) (hk:pwOk q) (hs:Sok M s) (hq:Pok M q) (h0:fld (cf s q+k)=0) (hat:At L (osum b s) (osum b (addS s q k)) L') (kk:J P ops Q n B H0 rest us H L'):J P ops Q n B H0 (⟨none,.call {callee:=.builtin .delete,args:=#[x,y],argTypes:=#[ty,tk]},t,p,af,none⟩::rest) us H L:=by
 obtain ⟨L1,h1,h2⟩:=hat.both (A':=osum b (delM s q));exact J.delete hu hK hx hy hk h1 (J.permO (del_add hq k hs h0) h2 kk)
end
theorem Sok.one {M:Int} {p:Pw} (h:Pok M p) {k:Int} (hk:1≤k∧k≤10006):Sok M [(p,k)]:=⟨by simp,fun x hx=>by simp at hx;rw [hx];exact h,fun x hx=>by simp at hx;rw [hx];exact hk⟩
end Go.Proofs.YtffgojlocbafhaaGreatDoor.G
