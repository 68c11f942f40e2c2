/- HartKnown: the chapter's examples of a hart, and harts that are none: the closed statement is true, by a run of the program that the kernel works out. The row's own conditions: the listed package-level variables start as the program's text lays them (the card ties them). -/
import Derived.Test.YtnbdedokjfpckaaGreatDoorM11
import Derived.Test.YtnbdedokjfpckaaGreatDoorM19
import Derived.Test.YtnbdedokjfpckaaGreatDoorCards
import Derived.Test.YtnbdedokjfpckaaGreatDoorTie
import Derived.SevenTiedAt
set_option linter.unusedVariables false
set_option linter.unusedSimpArgs false
namespace Go.Proofs.YtnbdedokjfpckaaGreatDoor
open Go Go.ChangeShapes Go.WideShapes Go.ChangeAt Go.ChangeMaps Go.RowKit Go.dD Go.dD.YtnbdedokjfpckaaGreatDoor
set_option maxRecDepth 100000
theorem CP (os:Os)(started:os.Started)(H:Type)(enc:TypeId×Value→H) :
 ReturnsInHanded {} Tryz.checked os 6 .any (fun w args=>(Rows.hartKnownSpec.pre enc Tryz.prog Tryz.f6 [] false w args∧laidMetH Tryz.prog Rows.hartKnownRow.laid w)∧sizedMet enc Tryz.prog Tryz.f6 (OpenSpec.ofChange Rows.hartKnownSpec) false w args)
  (Rows.hartKnownSpec.post enc Tryz.prog Tryz.f6 false true false false):=by
 refine yw (C:=Tryz.checked) (X:=fun w _=>laidMetH Tryz.prog Rows.hartKnownRow.laid w) (fun _ _ _ hh h=>h.of_heap hh) own started (by kernel_rfl) Tryz.func6
  (ChangeSpec.witness_shaped (enc:=enc) (C:=Tryz.checked) (os:=os) (X:=fun w _=>laidMetH Tryz.prog Rows.hartKnownRow.laid w) false (w0 os) #[] 8 rfl (World.shaped_of_RefB (by kernel_rfl) (by kernel_rfl)) (by kernel_rfl) (by kernel_rfl) (by kernel_rfl) (laid_met os _)) ?_
 intro W base args ds gs before hsh hval0 hW hL
 have hW':=hW
 obtain⟨p,q,hA0,hV,rfl,hfz,hnd⟩:=hW
 have hA:DataW.TrodAll enc Tryz.prog W 0 (fun _=>true) true Tryz.f6.params.toList args.toList ds p:=hA0
 rw [Tryz.params6] at hA
 obtain⟨rfl,rfl,rfl⟩:=trodAll_none hA
 obtain⟨rfl,rfl⟩:=trodVars_none hV
 have hst:=J6 hsh (Gt hL)
 have hen:Enters Tryz.prog 6:=mg Tryz.func6 (by kernel_rfl) (by kernel_rfl)
 refine(((KC NI TT_ok KL hst (aX:=#[]) rfl).calls hen)).mono fun e W' ha=>?_
 obtain⟨r,σ',hr,haf⟩:=ha
 have hr:=KD hr
 rw [hr] at haf
 obtain⟨v,μ',rfl,hv,hb⟩:=Eb okG0 haf
 simp only [aN] at hv
 subst hv
 refine⟨_,rfl,_,_,_,[],[],[],hW',?_,?_,rfl,hb.frame _,fun h=>by cases h⟩
 ·exact trodAll_mk1 (shut_bool Tryz.underlying4 true)
 ·exact trodAll_mk0
theorem EU:Rows.HartKnownSaid:=
 OpenClaim.holds_of_wide 6 Tryz.f6 rfl rfl rfl rfl rfl rfl rfl ⟨rfl,rfl,rfl,rfl,rfl⟩ rfl rfl rfl rfl rfl (by kernel_rfl) Tryz.func6 (by kernel_rfl)
  (of_decide_eq_true (by kernel_rfl)) (by unfold Func.isWrapper;first | (rw [if_pos (by decide +kernel)];kernel_rfl) | (rw [if_neg (by decide +kernel)];exact⟨rfl,rfl⟩))
  (fun os started H enc _=>CP os started H enc)
theorem known_card:Rows.HartKnownCardSaid:=
 Claim7.holds_tied_plain_at .later [] Rows.hartKnownCard.laidKinds true Rows.hartKnownCard.stood.harness true
  EU (fun _ h=>by cases h) (by kernel_rfl) (fun _ h=>by cases h) hartKnown_row_tie rfl ⟨rfl,rfl⟩ (by kernel_rfl) rfl
  (fun f fn hf hfn=>by
   obtain rfl:f=6:=Option.some.inj ((show Tryz.prog.funcNamed "fallow/fallowlaw28.HartKnown" =some 6 by kernel_rfl).symm.trans hf) |>.symm
   obtain rfl:fn=Tryz.f6:=(Option.some.inj (Tryz.func6.symm.trans hfn)).symm
   exact⟨by kernel_rfl,fun j t ht=>by
       rw [Tryz.params6] at ht
       simp at ht⟩)
  (by kernel_rfl)
#print axioms known_card
end Go.Proofs.YtnbdedokjfpckaaGreatDoor
