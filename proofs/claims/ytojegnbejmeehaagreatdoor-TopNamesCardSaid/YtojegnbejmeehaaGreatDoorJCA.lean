/- TopNamesCardSaid is proved: written with two other variable names, each of the four formulas is answered as before. Conditions: none beyond the statement. -/
import Derived.Test.YtojegnbejmeehaaGreatDoorCards
import Derived.Test.YtojegnbejmeehaaGreatDoorTie
import Derived.Lib.LaidIn
import Derived.Lib.LaidU8T
import Derived.Deep.DeepHandedRow
import Derived.Deep.DeepWitnessRowRef
import Derived.ProofKit
import Derived.SizedLaws
import Derived.SevenTiedAt
import Derived.Test.YtojegnbejmeehaaGreatDoorJBZ
namespace Go.Proofs.YtojegnbejmeehaaGreatDoor
open Go.RowKit
set_option maxRecDepth 10000
set_option maxHeartbeats 16000000
set_option linter.all false
section
namespace topNames
open Go.ChangeShapes Go.WideShapes Go.ChangeAt Go.RowKit Go.Lib Go.Shelf
open Go.ChangeMaps (open_string shut_string)
theorem own:ownKnob Tryz.prog.godebug=none:=by kernel_rfl
theorem uU:(Rows.laid_unicode_utf8_first:DataW Unit)=Lib.firstData:=by kernel_rfl
theorem tm:(Rows.laid_unicode_utf8_acceptRanges:DataW Unit)=Lib.acceptData:=by kernel_rfl
def ren:Ren:=⟨fun x=>x,fun x=>if x=5 then 5 else if x=119 then 172 else if x=138 then 175 else 176,fun x=>if x=3 then 0 else 1⟩
theorem D8:U8Types Tryz.prog ren:=⟨by kernel_rfl,by kernel_rfl,by kernel_rfl,by kernel_rfl⟩
theorem D9:U8Extra Tryz.prog ren:=⟨by kernel_rfl,by kernel_rfl,by kernel_rfl,by kernel_rfl,by kernel_rfl,by kernel_rfl,by kernel_rfl⟩
theorem Gu {W:World} (h:laidMetH Tryz.prog Rows.topNamesRow.laid W):Lib.Utf8Tabs 0 1 W:=by
 have h4:VarReads Tryz.prog W "unicode/utf8.acceptRanges" Lib.acceptData:=by
  rw[←tm];exact Lib.laidMet.reads h (.tail _ (.tail _ (.tail _ (.head _))))
 have h3:VarReads Tryz.prog W "unicode/utf8.first" Lib.firstData:=by
  rw[←uU];exact Lib.laidMet.reads h (.tail _ (.tail _ (.tail _ (.tail _ (.head _)))))
 exact utf8Tabs_of_readsT D8 D9 h3 h4
def ov:DataW Unit→List Value
 | .agg l=>l.filterMap fun d=>match d with
  | .lit (.int k z)=>some (.int k z)
  |_=>none
 |_=>[]
noncomputable def jW (os:Os):World:=
 let w0:=World.holding Tryz.prog os ⟨#[],#[],[]⟩
 let put (h:Array Obj) (g:Nat) (cs:Array Value):Array Obj:=h.modify g fun
  | .cells _ t frozen=>.cells cs t frozen
  |o=>o
 let h1:=put w0.heap 0 (Lib.firstTab.map fun z=>Value.int .u8 z).toArray
 let h2:=put h1 1 ((List.range 16).flatMap fun i=>[Value.int .u8 (Lib.accLo i),Value.int .u8 (Lib.accHi i)]).toArray
 let h3:=put h2 2 (ov Rows.laid_internal_strconv_uint64pow10).toArray
 let h4:=put h3 3 (ov Rows.laid_math_bits_deBruijn32tab).toArray
 let h5:=put h4 4 (ov Rows.laid_math_bits_deBruijn64tab).toArray
 {w0 with heap:=h5}
abbrev wArgs:Array Value:=#[.int .i64 0,.string ⟨#[]⟩,.string ⟨#[]⟩]
theorem CA (os:Os) (args:Array Value):laidMet Tryz.prog Rows.topNamesRow.laid ((jW os).forCall (fun _ _=>0) ⟨#[],args,[]⟩).memory:=
 (LaidIn.of_run (l:=Rows.topNamesRow.laid) [3,4,2,1,0] 8 (by kernel_rfl) (by kernel_rfl) (by kernel_rfl) (by kernel_rfl)).met
theorem tz (os:Os) {H:Type} (enc:TypeId×Value→H):
 (OpenSpec.ofChange Rows.topNamesSpec).preRow enc Tryz.prog Tryz.f3 Rows.topNamesRow.domain false Rows.topNamesRow.laid ((jW os).forCall (fun _ _=>0) ⟨#[],wArgs,[]⟩).memory wArgs:=by
 have hw:(DataW.whole enc Tryz.prog ((jW os).forCall (fun _ _=>0) ⟨#[],wArgs,[]⟩).memory Tryz.f3.params.toList Rows.topNamesSpec.vars false wArgs.toList 8).map (fun x=>(x.1,x.2.1))=
  some ([.lit (.int .i64 0),.lit (.string []),.lit (.string [])],[]):=by kernel_rfl
 obtain⟨⟨x1,x2,x3⟩,hx,hx1⟩:=Option.map_eq_some_iff.1 hw;simp only[Prod.mk.injEq]at hx1;obtain⟨rfl,rfl⟩:=hx1;exact OpenSpec.preRow_of_cond 8 hx (by kernel_rfl) (fun k hk=>by cases hk) (by kernel_rfl) (CA os _)
theorem lifted (os:Os) (started:os.Started) (H:Type) (enc:TypeId×Value→H) (F:Stop.Interp):
 ReturnsInHanded {} Tryz.checked os 3 .any ((OpenSpec.ofChange Rows.topNamesSpec).preRow enc Tryz.prog Tryz.f3 Rows.topNamesRow.domain false Rows.topNamesRow.laid) (((OpenSpec.ofChange Rows.topNamesSpec).at F).post enc Tryz.prog Tryz.f3 false true false false):=by
 refine returnsInHanded_of_row (C:=Tryz.checked) (s:=OpenSpec.ofChange Rows.topNamesSpec) own started (by kernel_rfl) Tryz.func3
  (witness_row_atRef (enc:=enc) (C:=Tryz.checked) false (jW os) wArgs rfl (by kernel_rfl) (by kernel_rfl) (by kernel_rfl) (tz os enc)) ?_
 intro W base args ds gs before hval0 hW _ _ hsz hL _ _;have hval:∀(j:Nat) t v,Tryz.f3.params[j]?=some t→args[j]?=some v→Value.okWide Tryz.prog W .any base t v:=hval0;have hW':=hW;obtain⟨p,q,hA0,hV0,rfl,_,_⟩:=hW;have hA:DataW.TrodAll enc Tryz.prog W 0 (fun _=>true) true Tryz.f3.params.toList args.toList ds p:=hA0;rw[Tryz.params3]at hA hval;obtain⟨v0,vs0,d0,ds0,p0,q0,hargs,rfl,rfl,h0,r0⟩:=trodAll_cons hA;obtain⟨v1,vs1,d1,ds1,p1,q1,rfl,rfl,rfl,h1,r1⟩:=trodAll_cons r0;obtain⟨v2,vs2,d2,ds2,p2,q2,rfl,rfl,rfl,h2,r2⟩:=trodAll_cons r1;obtain⟨rfl,rfl,rfl⟩:=trodAll_nil r2;obtain rfl:args=#[v0,v1,v2]:=by cases args;simp_all
 obtain⟨rfl,rfl⟩:=trodVars_none hV0;obtain⟨way,rfl,rfl,rfl,ww⟩:=open_int Tryz.underlying3 (hval 0 3 v0 rfl rfl) h0;obtain⟨a,rfl,rfl,rfl,wa⟩:=open_string Tryz.underlying9 (hval 1 9 v1 rfl rfl) h1;obtain⟨b,rfl,rfl,rfl,wb⟩:=open_string Tryz.underlying9 (hval 2 9 v2 rfl rfl) h2;have sa:=sized_string hsz (j:=1) (t:=9) (bytes:=a.data.toList) (by rw[Tryz.params3];rfl) rfl;have sb:=sized_string hsz (j:=2) (t:=9) (bytes:=b.data.toList) (by rw[Tryz.params3];rfl) rfl;have hrb:=reachBytes_lt;have ha:a.size≤140737488355328:=by
  have :a.data.toList.length=a.size:=Array.length_toList
  omega
 have hb:b.size≤140737488355328:=by
  have :b.data.toList.length=b.size:=Array.length_toList
  omega
 have htab:=Gu hL;clear hA0 hV0 hval0 hsz;refine uC way a b ha hb htab ?_;rintro e W' rfl kS;have e1:((OpenSpec.ofChange Rows.topNamesSpec).at F).fn H ([.lit (.int .i64 way),.lit (.string a.data.toList),.lit (.string b.data.toList)]++[])={results:=[.lit (.bool true)],args:=[.lit (.int .i64 way),.lit (.string a.data.toList),.lit (.string b.data.toList)]}:=rfl;have bel:Below W.heap.size W W':=⟨kS.os,kS.tape,kS.output,kS.size,fun k hk=>kS.block k hk trivial⟩;refine⟨_,rfl,_,_,_,[],[],[],hW',?_,?_,?_,bel.frame _,fun h=>by cases h⟩
 ·rw[e1];exact trodAll_mk1 (shut_bool Tryz.underlying4 _)
 ·rw[e1];exact trodAll_cons_mk (shut_int Tryz.underlying3 ww) (trodAll_cons_mk (shut_string Tryz.underlying9 wa) (trodAll_cons_mk (shut_string Tryz.underlying9 wb) trodAll_mk0))
 ·rw[e1];rfl
theorem named_:Tryz.pinned.checked.prog.funcNamed Rows.topNamesRow.func=some 3:=by kernel_rfl
theorem inst:Tryz.f3.isInstance Tryz.pinned.checked.prog Rows.topNamesRow.origin Rows.topNamesRow.targs:=of_decide_eq_true (by kernel_rfl)
theorem wrap:Tryz.f3.isWrapper Tryz.pinned.checked.prog Rows.topNamesRow.wrapper Rows.topNamesRow.mainSum:=by unfold Func.isWrapper;first|(rw[if_pos (by decide+kernel)];kernel_rfl)|(rw[if_neg (by decide+kernel)];exact⟨rfl,rfl⟩)
theorem closed:joinedFacts Tryz.pinned.checked.prog 3 Tryz.f3 (OpenSpec.ofChange Rows.topNamesSpec).bare Rows.topNamesRow=true:=by kernel_rfl
theorem said:Rows.TopNamesSaid:=
 OpenClaim.holds_of_cond 3 Tryz.f3 rfl rfl rfl rfl rfl rfl rfl ⟨rfl,rfl,rfl,rfl,rfl⟩ rfl rfl rfl rfl rfl named_ Tryz.func3 closed inst wrap
  (fun os started H enc _ F=>by rw[OpenClaim.pre_eq_preRow];exact lifted os started H enc F)
theorem plain (f:FuncId) (fn:Func) (hf:Tryz.pinned.checked.prog.funcNamed "sibyl/sibyltop.TopNames"=some f) (hfn:Tryz.pinned.checked.prog.funcs[f]?=some fn):
 true=Tryz.pinned.checked.prog.looks []∧∀(j:Nat) t,fn.params[j]?=some t→Tryz.pinned.checked.prog.wantsStandIn t=false:=by
 obtain rfl:f=3:=Option.some.inj ((show Tryz.prog.funcNamed "sibyl/sibyltop.TopNames"=some 3 by kernel_rfl).symm.trans hf)|>.symm
 obtain rfl:fn=Tryz.f3:=(Option.some.inj (Tryz.func3.symm.trans hfn)).symm;refine⟨by kernel_rfl,fun j t ht=>?_⟩;rw[Tryz.params3]at ht;have h3:t=3∨t=9:=by simpa using Array.mem_of_getElem? ht
 rcases h3 with rfl|rfl
 ·exact(show Tryz.prog.wantsStandIn 3=false by kernel_rfl)
 ·exact(show Tryz.prog.wantsStandIn 9=false by kernel_rfl)
theorem card:Rows.TopNamesCardSaid:=
 Claim7.holds_tied_plain_at .later [] _ _ _ _ said (fun _ h=>by cases h) (by kernel_rfl) (fun _ h=>by cases h) topNames_row_tie rfl ⟨rfl,rfl⟩ (by kernel_rfl) rfl plain (by kernel_rfl)
end topNames
end
end Go.Proofs.YtojegnbejmeehaaGreatDoor
