/- CompileKnown: the examples of the chapter: the closed statement is true, by a run of the program that the kernel works out. The conditions are those of the row: the listed package-level variables start as the text of the program lays them (the card ties them). -/
import Derived.Test.YthggaoedidfpcaaGreatDoorM10
import Derived.Test.YthggaoedidfpcaaGreatDoorTie
import Derived.SevenTiedAt
import Derived.Test.YthggaoedidfpcaaGreatDoorM14
import Derived.Test.YthggaoedidfpcaaGreatDoorM21
import Derived.Test.YthggaoedidfpcaaGreatDoorM22
import Derived.Test.YthggaoedidfpcaaGreatDoorM23
import Derived.Test.YthggaoedidfpcaaGreatDoorCards
set_option linter.unusedVariables false
set_option linter.unusedSimpArgs false
namespace Go.Proofs.YthggaoedidfpcaaGreatDoor
open Go Go.ChangeShapes Go.WideShapes Go.ChangeAt Go.ChangeMaps Go.RowKit
set_option maxRecDepth 100000
theorem kw4 (os:Os):Input.okWideB Tryz.checked.prog ((World.doorLaid Tryz.prog 1500 os).forCall (fun _ _=>0) { blocks:=#[],args:=#[] }) 3 { blocks:=#[],args:=#[] } =true:=by kernel_rfl
end Go.Proofs.YthggaoedidfpcaaGreatDoor
namespace Go.Proofs.YthggaoedidfpcaaGreatDoor
open Go Go.ChangeShapes Go.WideShapes Go.ChangeAt Go.ChangeMaps Go.RowKit
set_option maxRecDepth 100000
theorem kw5 (os:Os)(H:Type)(enc:TypeId×Value→H):ChangeSpec.preB enc Tryz.checked.prog Tryz.f3 Rows.compileKnownSpec [] false ((World.doorLaid Tryz.prog 1500 os).forCall (fun _ _=>0) { blocks:=#[],args:=#[] }).memory #[] 8=true:=by kernel_rfl
theorem kw6 (os:Os)(H:Type)(enc:TypeId×Value→H):ChangeSpec.sizedB enc Tryz.checked.prog Tryz.f3 Rows.compileKnownSpec false ((World.doorLaid Tryz.prog 1500 os).forCall (fun _ _=>0) { blocks:=#[],args:=#[] }).memory #[] 8=true:=by kernel_rfl
end Go.Proofs.YthggaoedidfpcaaGreatDoor
namespace Go.Proofs.YthggaoedidfpcaaGreatDoor
open Go Go.ChangeShapes Go.WideShapes Go.ChangeAt Go.ChangeMaps Go.RowKit Go.dX Go.dX.YthggaoedidfpcaaGreatDoor
set_option maxRecDepth 100000
theorem J7 {W:World} (h:laidMetH Tryz.prog Rows.compileKnownRow.laid W):Start W:=by
 have h':laidMet Tryz.prog [("math/bits.deBruijn32tab",Rows.laid_math_bits_deBruijn32tab),("math/bits.deBruijn64tab",Rows.laid_math_bits_deBruijn64tab),("internal/strconv.uint64pow10",Rows.laid_internal_strconv_uint64pow10),("strconv.ErrRange",Rows.laid_strconv_ErrRange),("strconv.ErrSyntax",Rows.laid_strconv_ErrSyntax),("fallow/isa.rows",Rows.laid_fallow_isa_rows),("unicode.White_Space",Rows.laid_unicode_White_Space),("strings.asciiSpace",Rows.laid_strings_asciiSpace)] W∧handlesMet Tryz.prog [("errors.errorType",Rows.laid_errors_errorType)] W:=h
 exact UW h'.1 h'.2 (by simp) (by simp) (by simp) (by simp) (by simp)
theorem H_ (os:Os)(started:os.Started)(H:Type)(enc:TypeId×Value→H) :
 ReturnsInHanded {} Tryz.checked os 3 .any (fun w args=>(Rows.compileKnownSpec.pre enc Tryz.prog Tryz.f3 [] false w args∧laidMetH Tryz.prog Rows.compileKnownRow.laid w)∧sizedMet enc Tryz.prog Tryz.f3 (OpenSpec.ofChange Rows.compileKnownSpec) false w args)
  (Rows.compileKnownSpec.post enc Tryz.prog Tryz.f3 false true false false):=by
 refine CO (C:=Tryz.checked) (X:=fun w _=>laidMetH Tryz.prog Rows.compileKnownRow.laid w) (fun _ _ _ hh h=>h.of_heap hh) own started (by kernel_rfl) Tryz.func3
  (ChangeSpec.witness_shaped (enc:=enc) (C:=Tryz.checked) (os:=os) (X:=fun w _=>laidMetH Tryz.prog Rows.compileKnownRow.laid w) false (World.doorLaid Tryz.prog 1500 os) #[] 8 rfl (World.shaped_of_RefB (kw2 os) (kw3 os)) (kw4 os) (kw5 os H enc) (kw6 os H enc) (Qi os _)) ?_
 intro W base args ds gs before hsh hval0 hW hL
 have hW':=hW
 obtain⟨p,q,hA0,hV,rfl,hfz,hnd⟩:=hW
 have hA:DataW.TrodAll enc Tryz.prog W 0 (fun _=>true) true Tryz.f3.params.toList args.toList ds p:=hA0
 rw [Tryz.params3] at hA
 obtain⟨rfl,rfl,rfl⟩:=trodAll_none hA
 obtain⟨rfl,rfl⟩:=trodVars_none hV
 have hst:=Qh hsh (J7 hL)
 have hen:Enters Tryz.prog 3:=kF Tryz.func3 (by kernel_rfl) (by kernel_rfl)
 refine(((Qx Uy TT_ok QD hst (bg:=#[]) rfl).calls hen)).mono fun e W' ha=>?_
 obtain⟨r,σ',hr,haf⟩:=ha
 have hr:=Qy hr
 rw [hr] at haf
 obtain⟨v,μ',rfl,hv,hb⟩:=Jv okG0 haf
 simp only [aV] at hv
 subst hv
 refine⟨_,rfl,_,_,_,[],[],[],hW',?_,?_,rfl,hb.frame _,fun h=>by cases h⟩
 ·exact trodAll_mk1 (shut_bool Tryz.underlying4 true)
 ·exact trodAll_mk0
theorem J8:Rows.CompileKnownSaid:=
 OpenClaim.holds_of_wide 3 Tryz.f3 rfl rfl rfl rfl rfl rfl rfl ⟨rfl,rfl,rfl,rfl,rfl⟩ rfl rfl rfl rfl rfl (by kernel_rfl) Tryz.func3 (by kernel_rfl)
  (of_decide_eq_true (by kernel_rfl)) (by unfold Func.isWrapper;first | (rw [if_pos (by decide +kernel)];kernel_rfl) | (rw [if_neg (by decide +kernel)];exact⟨rfl,rfl⟩))
  (fun os started H enc _=>H_ os started H enc)
theorem known_card:Rows.CompileKnownCardSaid:=
 Claim7.holds_tied_plain_at .later [] Rows.compileKnownCard.laidKinds true Rows.compileKnownCard.stood.harness true
  J8 (fun _ h=>by cases h) (by kernel_rfl) (fun _ h=>by cases h) compileKnown_row_tie rfl ⟨rfl,rfl⟩ (by kernel_rfl) rfl
  (fun f fn hf hfn=>by
   obtain rfl:f=3:=Option.some.inj ((show Tryz.prog.funcNamed "fallow/fallowlaw27.CompileKnown" =some 3 by kernel_rfl).symm.trans hf) |>.symm
   obtain rfl:fn=Tryz.f3:=(Option.some.inj (Tryz.func3.symm.trans hfn)).symm
   exact⟨by kernel_rfl,fun j t ht=>by
       rw [Tryz.params3] at ht
       simp at ht⟩)
  (by kernel_rfl)
#print axioms known_card
end Go.Proofs.YthggaoedidfpcaaGreatDoor
