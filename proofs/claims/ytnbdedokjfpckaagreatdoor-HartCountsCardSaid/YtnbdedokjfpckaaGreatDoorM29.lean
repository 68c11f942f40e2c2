/- HartCounts: a loop of so many rounds takes as many steps as it has instructions, and a service is told each time: for every number. The row's own conditions: the listed package-level variables start as the program's text lays them (the card ties them). -/
import Derived.Test.YtnbdedokjfpckaaGreatDoorM23
import Derived.Test.YtnbdedokjfpckaaGreatDoorM24
import Derived.Test.YtnbdedokjfpckaaGreatDoorM25
import Derived.Test.YtnbdedokjfpckaaGreatDoorM26
import Derived.Test.YtnbdedokjfpckaaGreatDoorM27
import Derived.Test.YtnbdedokjfpckaaGreatDoorM28
import Derived.Test.YtnbdedokjfpckaaGreatDoorM10
import Derived.Test.YtnbdedokjfpckaaGreatDoorCards
import Derived.Test.YtnbdedokjfpckaaGreatDoorTie
import Derived.SevenTiedAt
set_option linter.unusedVariables false
set_option linter.unusedSimpArgs false
namespace Go.dB.YtnbdedokjfpckaaGreatDoor
open Go.Proofs
set_option maxRecDepth 100000
theorem Vy {n:Nat} (h:n<256):Aj 512 n=true:=by
 show Nat.ble n 255=true
 exact Nat.ble_eq_true_of_le (by omega)
theorem Jd {n b:Nat} {K:KF} (hn:n<256)(hb:b<256)(h1:1≤b):lX 512 256 (.n 512 n) (.n 512 b) K=K (.n 512 (n%b)):=by
 show bC true (bC true (bC (Aj 512 n) (bC (Aj 512 b) (bC (Nat.ble 1 b) (qh (Nat.mod n b) 512 K) false) false) false) false) false=_
 rw [Vy hn,Vy hb,Nat.ble_eq_true_of_le h1,h_];rfl
theorem Je (a:FV)(s:GS)(K:KS):KW TT 1000 3 [a] s K=KD (KW TT 999) (goN T3.get (KW TT 999) K 1000000000) K a s:=by kernel_rfl
theorem c_rep {r:Rn} {g:Go} {K:KS} {s:GS} {n:Nat} (hn:n<256):KD r g K (.n 512 n) s=KD r g K (.n 512 (n%50)) s:=by
 unfold KD
 simp only [Jd hn (show 50<256 by omega) (by omega),Jd (show n%50<256 by omega) (show 50<256 by omega) (by omega),Nat.mod_mod]
theorem c_low:∀k,k<50→bU TT 1000 3 [.n 512 k] G0 isTrue=true
 | 0,_=>cr0
 | 1,_=>cr1
 | 2,_=>cr2
 | 3,_=>cr3
 | 4,_=>cr4
 | 5,_=>cr5
 | 6,_=>cr6
 | 7,_=>cr7
 | 8,_=>cr8
 | 9,_=>cr9
 | 10,_=>cr10
 | 11,_=>cr11
 | 12,_=>cr12
 | 13,_=>cr13
 | 14,_=>cr14
 | 15,_=>cr15
 | 16,_=>cr16
 | 17,_=>cr17
 | 18,_=>cr18
 | 19,_=>cr19
 | 20,_=>cr20
 | 21,_=>cr21
 | 22,_=>cr22
 | 23,_=>cr23
 | 24,_=>cr24
 | 25,_=>cr25
 | 26,_=>cr26
 | 27,_=>cr27
 | 28,_=>cr28
 | 29,_=>cr29
 | 30,_=>cr30
 | 31,_=>cr31
 | 32,_=>cr32
 | 33,_=>cr33
 | 34,_=>cr34
 | 35,_=>cr35
 | 36,_=>cr36
 | 37,_=>cr37
 | 38,_=>cr38
 | 39,_=>cr39
 | 40,_=>cr40
 | 41,_=>cr41
 | 42,_=>cr42
 | 43,_=>cr43
 | 44,_=>cr44
 | 45,_=>cr45
 | 46,_=>cr46
 | 47,_=>cr47
 | 48,_=>cr48
 | 49,_=>cr49
 | k+50,h=>absurd h (by omega)
theorem c_all {n:Nat} (hn:n<256):bU TT 1000 3 [.n 512 n] G0 isTrue=true:=by
 have e:(fun s=>KW TT 1000 3 [.n 512 n] s fun v _=>isTrue v)=(fun s=>KW TT 1000 3 [.n 512 (n%50)] s fun v _=>isTrue v):=funext fun s=>((Je _ s _).trans (c_rep hn)).trans (Je _ s _).symm
 have h:=c_low (n%50) (by omega)
 unfold bU at h ⊢
 rw [e];exact h
end Go.dB.YtnbdedokjfpckaaGreatDoor
namespace Go.Proofs.YtnbdedokjfpckaaGreatDoor
open Go Go.ChangeShapes Go.WideShapes Go.ChangeAt Go.ChangeMaps Go.RowKit Go.dB Go.dB.YtnbdedokjfpckaaGreatDoor
set_option maxRecDepth 100000
theorem CG {m:Int} (hm:(Lit.int .u8 m).wf=true):∃n:Nat,n<256∧m=(n:Int):=by
 have h2:(decide ((0:Int)≤m) && decide (m≤255))=true:=hm
 rw [Bool.and_eq_true,decide_eq_true_eq,decide_eq_true_eq] at h2
 exact⟨m.toNat,by omega,by omega⟩
theorem CJ {n:Nat} (hn:n<256):FV.av (.n 512 n)= .i .u8 n:=by rw [Ja,Nat.mod_eq_of_lt hn]
theorem zi (os:Os)(started:os.Started)(H:Type)(enc:TypeId×Value→H) :
 ReturnsInHanded {} Tryz.checked os 3 .any (fun w args=>(Rows.hartCountsSpec.pre enc Tryz.prog Tryz.f3 [] false w args∧laidMetH Tryz.prog Rows.hartCountsRow.laid w)∧sizedMet enc Tryz.prog Tryz.f3 (OpenSpec.ofChange Rows.hartCountsSpec) false w args)
  (Rows.hartCountsSpec.post enc Tryz.prog Tryz.f3 false true false false):=by
 refine oH (C:=Tryz.checked) (X:=fun w _=>laidMetH Tryz.prog Rows.hartCountsRow.laid w) (fun _ _ _ hh h=>h.of_heap hh) own started (by kernel_rfl) Tryz.func3
  (ChangeSpec.witness_shaped (enc:=enc) (C:=Tryz.checked) (os:=os) (X:=fun w _=>laidMetH Tryz.prog Rows.hartCountsRow.laid w) false (w0 os) #[.int .u8 0] 8 rfl (World.shaped_of_RefB (by kernel_rfl) (by kernel_rfl)) (by kernel_rfl) (by kernel_rfl) (by kernel_rfl) (laid_met os _)) ?_
 intro W base args ds gs before hsh hval0 hW hL
 have hval:∀(j:Nat) t v,Tryz.f3.params[j]? =some t→args[j]? =some v→Value.okWide Tryz.prog W .any base t v:=hval0
 have hW':=hW
 obtain⟨p,q,hA0,hV,rfl,hfz,hnd⟩:=hW
 have hA:DataW.TrodAll enc Tryz.prog W 0 (fun _=>true) true Tryz.f3.params.toList args.toList ds p:=hA0
 rw [Tryz.params3] at hA hval
 obtain⟨v0,d0,rfl,rfl,h0⟩:=trodAll_one hA
 obtain⟨rfl,rfl⟩:=trodVars_none hV
 obtain⟨m,rfl,rfl,rfl,hm⟩:=open_int Tryz.underlying5 (hval 0 5 v0 rfl rfl) h0
 obtain⟨n,hn,rfl⟩:=CG hm
 have hst:=Ah hsh (yj hL)
 have hen:Enters Tryz.prog 3:=mJ Tryz.func3 (by kernel_rfl) (by kernel_rfl)
 refine(((AP D9 TT_ok (c_all hn) hst (aY:=#[.int .u8 n]) ⟨_,[],rfl,by rw [CJ hn];rfl,rfl⟩).calls hen)).mono fun e W' ha=>?_
 obtain⟨r,σ',hr,haf⟩:=ha
 have hr:=AQ hr
 rw [hr] at haf
 obtain⟨v,μ',rfl,hv,hb⟩:=vw okG0 haf
 simp only [aO] at hv
 subst hv
 refine⟨_,rfl,_,_,_,[],[],[],hW',?_,?_,rfl,hb.frame _,fun h=>by cases h⟩
 ·exact trodAll_mk1 (shut_bool Tryz.underlying4 true)
 ·exact trodAll_mk1 (shut_int Tryz.underlying5 hm)
theorem CP:Rows.HartCountsSaid:=
 OpenClaim.holds_of_wide 3 Tryz.f3 rfl rfl rfl rfl rfl rfl rfl ⟨rfl,rfl,rfl,rfl,rfl⟩ rfl rfl rfl rfl rfl (by kernel_rfl) Tryz.func3 (by kernel_rfl)
  (of_decide_eq_true (by kernel_rfl)) (by unfold Func.isWrapper;first | (rw [if_pos (by decide +kernel)];kernel_rfl) | (rw [if_neg (by decide +kernel)];exact⟨rfl,rfl⟩))
  (fun os started H enc _=>zi os started H enc)
theorem counts_card:Rows.HartCountsCardSaid:=
 Claim7.holds_tied_plain_at .later [] Rows.hartCountsCard.laidKinds true Rows.hartCountsCard.stood.harness true
  CP (fun _ h=>by cases h) (by kernel_rfl) (fun _ h=>by cases h) hartCounts_row_tie rfl ⟨rfl,rfl⟩ (by kernel_rfl) rfl
  (fun f fn hf hfn=>by
   obtain rfl:f=3:=Option.some.inj ((show Tryz.prog.funcNamed "fallow/fallowlaw28.HartCounts" =some 3 by kernel_rfl).symm.trans hf) |>.symm
   obtain rfl:fn=Tryz.f3:=(Option.some.inj (Tryz.func3.symm.trans hfn)).symm
   exact⟨by kernel_rfl,fun j t ht=>by
       rw [Tryz.params3] at ht
       have hm:t∈[5]:=by simpa using Array.mem_of_getElem? ht
       have hall:([5].all fun u=>!Tryz.prog.wantsStandIn u)=true:=by kernel_rfl
       exact(show Tryz.prog.wantsStandIn t=false by simpa using List.all_eq_true.1 hall t hm)⟩)
  (by kernel_rfl)
#print axioms counts_card
end Go.Proofs.YtnbdedokjfpckaaGreatDoor
