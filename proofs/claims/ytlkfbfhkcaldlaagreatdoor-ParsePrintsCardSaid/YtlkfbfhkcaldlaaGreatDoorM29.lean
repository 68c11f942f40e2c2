/- Texts of this claim, joined: PPrints. -/
import Derived.Test.YtlkfbfhkcaldlaaGreatDoorM10
import Derived.Test.YtlkfbfhkcaldlaaGreatDoorM28
import Derived.Test.YtlkfbfhkcaldlaaGreatDoorCards
import Derived.Test.YtlkfbfhkcaldlaaGreatDoorTie
import Derived.SevenTiedAt
set_option linter.unusedVariables false
set_option linter.unusedSimpArgs false
namespace Go.Proofs.YtlkfbfhkcaldlaaGreatDoor
open Go Go.ChangeShapes Go.WideShapes Go.ChangeAt Go.ChangeMaps Go.RowKit Go.Abs Go.Abs.YtlkfbfhkcaldlaaGreatDoor
set_option maxRecDepth 100000
theorem prints_start {W:World} (h:laidMetH Tryz.prog Rows.parsePrintsRow.laid W):Start W:=by
 have h':laidMet Tryz.prog [("math/bits.deBruijn32tab",Rows.laid_math_bits_deBruijn32tab),("math/bits.deBruijn64tab",Rows.laid_math_bits_deBruijn64tab),("internal/strconv.uint64pow10",Rows.laid_internal_strconv_uint64pow10),("strconv.ErrRange",Rows.laid_strconv_ErrRange),("strconv.ErrSyntax",Rows.laid_strconv_ErrSyntax),("unicode.White_Space",Rows.laid_unicode_White_Space),("strings.asciiSpace",Rows.laid_strings_asciiSpace)] W:=h
 exact UY h' (by simp) (by simp) (by simp)
theorem str_eq (s:ByteArray):(⟨s.data.toList.toArray⟩:ByteArray)=s:=by cases s;rfl
theorem prints_lifted (os:Os)(started:os.Started)(H:Type)(enc:TypeId×Value->H) :
 ReturnsInHanded {} Tryz.checked os 3 .any (fun w args=>(Rows.parsePrintsSpec.pre enc Tryz.prog Tryz.f3 [] false w args/\laidMetH Tryz.prog Rows.parsePrintsRow.laid w)/\sizedMet enc Tryz.prog Tryz.f3 (OpenSpec.ofChange Rows.parsePrintsSpec) false w args)
  (Rows.parsePrintsSpec.post enc Tryz.prog Tryz.f3 false true false false):=by
 refine Ef (C:=Tryz.checked) (X:=fun w _=>laidMetH Tryz.prog Rows.parsePrintsRow.laid w) (fun _ _ _ hh h=>h.of_heap hh) own started (by kernel_rfl) Tryz.func3
  (ChangeSpec.witness_shaped (enc:=enc) (C:=Tryz.checked) (os:=os) (X:=fun w _=>laidMetH Tryz.prog Rows.parsePrintsRow.laid w) false (World.doorLaid Tryz.prog 400 os) #[.string ⟨#[]⟩] 8 rfl (World.shaped_of_RefB (by kernel_rfl) (by kernel_rfl)) (by kernel_rfl) (by kernel_rfl) (by kernel_rfl) (prints_met os _)) ?_
 intro W base args ds gs before hsh hval0 hW hL
 have hval:∀(j:Nat) t v,Tryz.f3.params[j]? =some t->args[j]? =some v->Value.okWide Tryz.prog W .any base t v:=hval0
 have hW':=hW
 obtain⟨p,q,hA0,hV,rfl,hfz,hnd⟩:=hW
 have hA:DataW.TrodAll enc Tryz.prog W 0 (fun _=>true) true Tryz.f3.params.toList args.toList ds p:=hA0
 rw [Tryz.params3] at hA hval
 obtain⟨v0,d0,rfl,rfl,h0⟩:=trodAll_one hA
 obtain⟨rfl,rfl⟩:=trodVars_none hV
 obtain⟨s,rfl,rfl,rfl,hs⟩:=open_string Tryz.underlying9 (hval 0 9 v0 rfl rfl) h0
 have hst:=Rk hsh (prints_start hL)
 have hen:Enters Tryz.prog 3:=iw Tryz.func3 (by kernel_rfl) (by kernel_rfl)
 refine((prints_to s.data.toList G0 rfl).ev.calls YX hen hst (aO:=#[.string s]) ⟨_,[],rfl,by simp [aI],rfl⟩).mono fun e W' ha=>?_
 obtain⟨r,Z',⟨rfl,rfl⟩,haf⟩:=ha
 obtain⟨v,Y',rfl,hv,hb⟩:=KX NZ haf
 simp only [aI] at hv
 subst hv
 refine⟨_,rfl,_,_,_,[],[],[],hW',?_,?_,rfl,hb.frame _,fun h=>by cases h⟩
 ·exact trodAll_mk1 (shut_bool Tryz.underlying4 true)
 ·exact trodAll_mk1 (shut_string Tryz.underlying9 hs)
theorem prints_holds:Rows.ParsePrintsSaid:=
 OpenClaim.holds_of_wide 3 Tryz.f3 rfl rfl rfl rfl rfl rfl rfl ⟨rfl,rfl,rfl,rfl,rfl⟩ rfl rfl rfl rfl rfl (by kernel_rfl) Tryz.func3 (by kernel_rfl)
  (of_decide_eq_true (by kernel_rfl)) (by unfold Func.isWrapper;first | (rw [if_pos (by decide +kernel)];kernel_rfl) | (rw [if_neg (by decide +kernel)];exact⟨rfl,rfl⟩))
  (fun os started H enc _=>prints_lifted os started H enc)
theorem prints_card:Rows.ParsePrintsCardSaid:=
 Claim7.holds_tied_plain_at .later [] Rows.parsePrintsCard.laidKinds true Rows.parsePrintsCard.stood.harness true
  prints_holds (fun _ h=>by cases h) (by kernel_rfl) (fun _ h=>by cases h) parsePrints_row_tie rfl ⟨rfl,rfl⟩ (by kernel_rfl) rfl
  (fun f fn hf hfn=>by
   obtain rfl:f=3:=Option.some.inj ((show Tryz.prog.funcNamed "fallow/fallowlaw24.ParsePrints" =some 3 by kernel_rfl).symm.trans hf) |>.symm
   obtain rfl:fn=Tryz.f3:=(Option.some.inj (Tryz.func3.symm.trans hfn)).symm
   exact⟨by kernel_rfl,fun j t ht=>by
       rw [Tryz.params3] at ht
       have hm:t∈[9]:=by simpa using Array.mem_of_getElem? ht
       have hall:([9].all fun u=>!Tryz.prog.wantsStandIn u)=true:=by kernel_rfl
       exact(show Tryz.prog.wantsStandIn t=false by simpa using List.all_eq_true.1 hall t hm)⟩)
  (by kernel_rfl)
#print axioms prints_card
end Go.Proofs.YtlkfbfhkcaldlaaGreatDoor
