/- HartScans: what is stale in a hart's registers is made not valid, however it stands, and nothing else: of all granules that are painted, and ways to stand. The row's own conditions: the listed package-level variables start as the program's text lays them (the card ties them). -/
import Derived.Test.YtnbdedokjfpckaaGreatDoorM11
import Derived.Test.YtnbdedokjfpckaaGreatDoorM26
import Derived.Test.YtnbdedokjfpckaaGreatDoorCards
import Derived.Test.YtnbdedokjfpckaaGreatDoorTie
import Derived.SevenTiedAt
set_option linter.unusedVariables false
set_option linter.unusedSimpArgs false
namespace Go.Proofs.YtnbdedokjfpckaaGreatDoor
open Go Go.ChangeShapes Go.WideShapes Go.ChangeAt Go.ChangeMaps Go.RowKit Go.cO Go.cO.YtnbdedokjfpckaaGreatDoor
set_option maxRecDepth 100000
theorem u8_low {m:Int} (hm:(Lit.int .u8 m).wf=true):0≤m:=by
 have h2:(decide ((0:Int)≤m) && decide (m≤255))=true:=hm
 rw [Bool.and_eq_true,decide_eq_true_eq,decide_eq_true_eq] at h2
 exact h2.1
theorem aar {m:Int} (hm:(Lit.int .u16 m).wf=true):∃n:Nat,n<65536∧m=(n:Int):=by
 have h2:(decide ((0:Int)≤m) && decide (m≤65535))=true:=hm
 rw [Bool.and_eq_true,decide_eq_true_eq,decide_eq_true_eq] at h2
 exact⟨m.toNat,by omega,by omega⟩
theorem D_ (os:Os)(started:os.Started)(H:Type)(enc:TypeId×Value→H) :
 ReturnsInHanded {} Tryz.checked os 5 .any (fun w args=>(Rows.hartScansSpec.pre enc Tryz.prog Tryz.f5 [] false w args∧laidMetH Tryz.prog Rows.hartScansRow.laid w)∧sizedMet enc Tryz.prog Tryz.f5 (OpenSpec.ofChange Rows.hartScansSpec) false w args)
  (Rows.hartScansSpec.post enc Tryz.prog Tryz.f5 false true false false):=by
 refine zx (C:=Tryz.checked) (X:=fun w _=>laidMetH Tryz.prog Rows.hartScansRow.laid w) (fun _ _ _ hh h=>h.of_heap hh) own started (by kernel_rfl) Tryz.func5
  (ChangeSpec.witness_shaped (enc:=enc) (C:=Tryz.checked) (os:=os) (X:=fun w _=>laidMetH Tryz.prog Rows.hartScansRow.laid w) false (w0 os) #[.int .u16 0,.int .u8 0] 8 rfl (World.shaped_of_RefB (by kernel_rfl) (by kernel_rfl)) (by kernel_rfl) (by kernel_rfl) (by kernel_rfl) (laid_met os _)) ?_
 intro W base args ds gs before hsh hval0 hW hL
 have hval:∀(j:Nat) t v,Tryz.f5.params[j]? =some t→args[j]? =some v→Value.okWide Tryz.prog W .any base t v:=hval0
 have hW':=hW
 obtain⟨p,q,hA0,hV,rfl,hfz,hnd⟩:=hW
 have hA:DataW.TrodAll enc Tryz.prog W 0 (fun _=>true) true Tryz.f5.params.toList args.toList ds p:=hA0
 rw [Tryz.params5] at hA hval
 obtain⟨v0,v1,d0,d1,p0,p1,rfl,rfl,rfl,h0,h1⟩:=trodAll_two hA
 obtain⟨rfl,rfl⟩:=trodVars_none hV
 obtain⟨m,rfl,rfl,rfl,hm⟩:=open_int Tryz.underlying29 (hval 0 29 v0 rfl rfl) h0
 obtain⟨m1,rfl,rfl,rfl,hm1⟩:=open_int Tryz.underlying5 (hval 1 5 v1 rfl rfl) h1
 obtain⟨n,hn,rfl⟩:=aar hm
 have hst:=LZ hsh (Il hL)
 have hen:Enters Tryz.prog 5:=kY Tryz.func5 (by kernel_rfl) (by kernel_rfl)
 refine(((UZ hn (u8_low hm1)).does UK hst (aW:=#[.int .u16 n,.int .u8 m1]) ⟨_,_,rfl,rfl,_,[],rfl,rfl,rfl⟩).calls hen).mono fun e W' ha=>?_
 obtain⟨r,σ',hr,haf⟩:=ha
 rw [hr] at haf
 obtain⟨v,μ',rfl,hv,hb⟩:=Fh Pn haf
 simp only [aJ] at hv
 subst hv
 refine⟨_,rfl,_,_,_,[],[],[],hW',?_,?_,rfl,hb.frame _,fun h=>by cases h⟩
 ·exact trodAll_mk1 (shut_bool Tryz.underlying4 true)
 ·exact trodAll_mk2 (shut_int Tryz.underlying29 hm) (shut_int Tryz.underlying5 hm1)
theorem GL:Rows.HartScansSaid:=
 OpenClaim.holds_of_wide 5 Tryz.f5 rfl rfl rfl rfl rfl rfl rfl ⟨rfl,rfl,rfl,rfl,rfl⟩ rfl rfl rfl rfl rfl (by kernel_rfl) Tryz.func5 (by kernel_rfl)
  (of_decide_eq_true (by kernel_rfl)) (by unfold Func.isWrapper;first | (rw [if_pos (by decide +kernel)];kernel_rfl) | (rw [if_neg (by decide +kernel)];exact⟨rfl,rfl⟩))
  (fun os started H enc _=>D_ os started H enc)
theorem scans_card:Rows.HartScansCardSaid:=
 Claim7.holds_tied_plain_at .later [] Rows.hartScansCard.laidKinds true Rows.hartScansCard.stood.harness true
  GL (fun _ h=>by cases h) (by kernel_rfl) (fun _ h=>by cases h) hartScans_row_tie rfl ⟨rfl,rfl⟩ (by kernel_rfl) rfl
  (fun f fn hf hfn=>by
   obtain rfl:f=5:=Option.some.inj ((show Tryz.prog.funcNamed "fallow/fallowlaw28.HartScans" =some 5 by kernel_rfl).symm.trans hf) |>.symm
   obtain rfl:fn=Tryz.f5:=(Option.some.inj (Tryz.func5.symm.trans hfn)).symm
   exact⟨by kernel_rfl,fun j t ht=>by
       rw [Tryz.params5] at ht
       have hm:t∈[29,5]:=by simpa using Array.mem_of_getElem? ht
       have hall:([29,5].all fun u=>!Tryz.prog.wantsStandIn u)=true:=by kernel_rfl
       exact(show Tryz.prog.wantsStandIn t=false by simpa using List.all_eq_true.1 hall t hm)⟩)
  (by kernel_rfl)
#print axioms scans_card
end Go.Proofs.YtnbdedokjfpckaaGreatDoor
