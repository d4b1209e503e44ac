/-
  FnDesk returns true for all codes. No condition beyond the row's own reach.
-/
import Derived.Test.YtfgkfcfplodaoaaGreatDoorG0
import Derived.Test.YtfgkfcfplodaoaaGreatDoorK21
import Derived.Test.YtfgkfcfplodaoaaGreatDoorG20
import Derived.Test.YtfgkfcfplodaoaaGreatDoorG7
import Derived.Test.YtfgkfcfplodaoaaGreatDoorTie
import Derived.Test.YtfgkfcfplodaoaaGreatDoorCards
import Derived.SevenTiedAt
import Derived.Test.YtfgkfcfplodaoaaGreatDoorRows
namespace Go.Proofs.YtfgkfcfplodaoaaGreatDoor.fnDesk
set_option maxRecDepth 100000
set_option linter.unusedVariables false
set_option linter.unusedSimpArgs false
open Go Go.RowKit Go.ChangeShapes Go.WideShapes Go.ChangeAt Go.Deep
theorem own:ownKnob Tryz.prog.godebug=none:=by kernel_rfl
theorem laidOut:laidOutB Tryz.prog=true:=by kernel_rfl
theorem readable:∀t∈Tryz.f5.params.toList,Tryz.prog.readableRec t=true∧t<Tryz.prog.types.size:=by
 rw [Tryz.params5]
 intro t ht
 simp only [List.mem_cons,List.not_mem_nil,or_false]at ht
 subst ht
 ·exact⟨by kernel_rfl,of_decide_eq_true (by kernel_rfl)⟩
theorem lifted (os:Os)(started:os.Started)(H:Type)(enc:TypeId×Value→H):
  ReturnsInHanded {} Tryz.checked os 5 .any (fun w args=>(Rows.fnDeskSpec.pre enc Tryz.prog Tryz.f5 Rows.fnDeskRow.domain false w args∧laidMetH Tryz.prog Rows.fnDeskRow.laid w)∧sizedMet enc Tryz.prog Tryz.f5 (OpenSpec.ofChange Rows.fnDeskSpec) false w args) (Rows.fnDeskSpec.post enc Tryz.prog Tryz.f5 false true false false):=by
 refine returnsInHanded_of_change_and (C:=Tryz.checked) (X:=fun w _=>laidMetH Tryz.prog Rows.fnDeskRow.laid w) (fun _ _ _ hh h=>h.of_heap hh) own started (by kernel_rfl) Tryz.func5
  (ChangeSpec.witness_shaped (enc:=enc) (C:=Tryz.checked) (os:=os) (X:=fun w _=>laidMetH Tryz.prog Rows.fnDeskRow.laid w) false (World.doorLaid Tryz.prog 2000 os) #[.slice none 0 0] 8 rfl (World.shaped_of_RefB (by kernel_rfl) (by kernel_rfl)) (by kernel_rfl) (by kernel_rfl) (by kernel_rfl) (door_met os _)) ?_
 intro W base args ds gs before hval0 hW _ hsz0 hL _
 have gl:GlobOk none0 W:=glob_of_laid hL
 have hsz:(DataW.weightsEach Tryz.prog (Tryz.f5.params.toList++Rows.fnDeskSpec.plain.varTypes Tryz.prog) (ds++gs)).all (· ≤reachBytes)=true:=hsz0
 have hval:∀(j:Nat) t v,Tryz.f5.params[j]?=some t→args[j]?=some v→Value.okWide Tryz.prog W .any base t v:=hval0
 clear hsz0 hval0
 have hW':=hW
 obtain⟨p,q,hA0,hV,rfl,_,_⟩:=hW
 have gsOne:∃g,gs=[g]:=by
  obtain⟨_,_,_,_,d,_,e,_⟩:=trodVars_one (show DataW.TrodVars enc Tryz.prog W (fun _=>true) ["loop.example/g00946/impl.shaWords"] gs q from hV)
  exact⟨d,e⟩
 clear hV
 have hA:DataW.TrodAll enc Tryz.prog W 0 (fun _=>true) true Tryz.f5.params.toList args.toList ds p:=hA0
 clear hA0
 rw [Tryz.params5]at hA hval hsz
 obtain⟨v0,vs0,d0,ds0,p0,q0,hargs,rfl,rfl,h0,r0⟩:=trodAll_cons hA
 obtain⟨rfl,rfl,rfl⟩:=trodAll_nil r0
 obtain rfl:args= #[v0]:=by cases args;simp_all
 have hfn:(Rows.fnDeskSpec.fn H ([d0]++gs)).results=[.lit (.bool true)]∧(Rows.fnDeskSpec.fn H ([d0]++gs)).args=[d0]∧(Rows.fnDeskSpec.fn H ([d0]++gs)).vars=gs:=by
  obtain⟨g1,hg1⟩:∃g,gs=[g]:=gsOne
  rw [hg1]
  exact⟨rfl,rfl,rfl⟩
 have hlt:∀x∈(p0++[]),x.block<W.heap.size:=fun x hx=>by simpa using hW'.lt x (List.mem_append_left _ hx)
 obtain⟨l0,e0,b0⟩:=arg_rows Tryz.underlying22 cellsU8 (by omega) (hval 0 22 v0 rfl rfl) h0 (B:=W.heap.size) (fun x hx=>hlt x (by simp [hx])) (elem_u8 Tryz.underlying5)
 have z0:=arg_reach hsz (j:=0) rfl rfl Tryz.underlying22 b0
 rw [bytesU8]at z0
 refine(law_code lawFnDesk_s e0.flat.1 e0.flat.2 (by omega)).mono fun e W' ⟨he,hb⟩=>?_
 subst he
 exact⟨_,rfl,law_post1 Tryz.underlying4 rfl rfl laidOut readable gShaRead hW' hfn hb⟩
theorem holds:Rows.FnDeskSaid:=
 OpenClaim.holds_of_wide 5 Tryz.f5 rfl rfl rfl rfl rfl rfl rfl ⟨rfl,rfl,rfl,rfl,rfl⟩ rfl rfl rfl rfl rfl (by kernel_rfl) Tryz.func5 (by kernel_rfl)
  (of_decide_eq_true (by kernel_rfl)) (by unfold Func.isWrapper;first|(rw [if_pos (by decide+kernel)];kernel_rfl)|(rw [if_neg (by decide+kernel)];exact⟨rfl,rfl⟩))
  (fun os started H enc _=>lifted os started H enc)
theorem card:Rows.FnDeskCardSaid:=
 Claim7.holds_tied_plain_at .later [] [.data] true (true, "bbc0640c368d2ec74801a9f55690982ed04ad0ea8807cc6c32afa3782415c0f1") false
  holds (fun _ h=>by cases h) (by kernel_rfl) (fun _ h=>by cases h) Go.Proofs.YtfgkfcfplodaoaaGreatDoor.fnDesk_row_tie rfl ⟨rfl,rfl⟩ (by kernel_rfl) rfl
  (fun f fn hf hfn=>by
   obtain rfl:f=5:=Option.some.inj ((show Tryz.prog.funcNamed "loop.example/g00946/laws.FnDesk" =some 5 by kernel_rfl).symm.trans hf)|>.symm
   obtain rfl:fn=Tryz.f5:=(Option.some.inj (Tryz.func5.symm.trans hfn)).symm
   exact⟨by kernel_rfl,fun j t ht=>by
    rw [Tryz.params5]at ht
    have hm:t∈[22]:=by simpa using Array.mem_of_getElem? ht
    have hall:([22].all fun u=>!Tryz.prog.wantsStandIn u)=true:=by kernel_rfl
    exact(show Tryz.prog.wantsStandIn t=false by simpa using List.all_eq_true.1 hall t hm)⟩)
  (by kernel_rfl)
end Go.Proofs.YtfgkfcfplodaoaaGreatDoor.fnDesk
