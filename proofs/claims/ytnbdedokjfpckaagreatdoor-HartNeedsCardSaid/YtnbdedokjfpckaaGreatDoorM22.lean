/- HartNeeds: a hart tells the page from which its next instruction would load a capability, and no other instruction has one: at every place, and for every number of an instruction. The row's own conditions: the listed package-level variables start as the program's text lays them (the card ties them). -/
import Derived.Test.YtnbdedokjfpckaaGreatDoorM18
import Derived.Test.YtnbdedokjfpckaaGreatDoorM19
import Derived.Test.YtnbdedokjfpckaaGreatDoorM20
import Derived.Test.YtnbdedokjfpckaaGreatDoorM21
import Derived.Test.YtnbdedokjfpckaaGreatDoorM10
import Derived.Test.YtnbdedokjfpckaaGreatDoorCards
import Derived.Test.YtnbdedokjfpckaaGreatDoorTie
import Derived.SevenTiedAt
set_option linter.unusedVariables false
set_option linter.unusedSimpArgs false
namespace Go.dB.YtnbdedokjfpckaaGreatDoor
open Go.Proofs
set_option maxRecDepth 100000
theorem CB {n:Nat} (h:n<256):Aj 512 n=true:=by
 show Nat.ble n 255=true
 exact Nat.ble_eq_true_of_le (by omega)
theorem EU {n b:Nat} {K:KF} (hn:n<256)(hb:b<256)(h1:1≤b):lX 512 256 (.n 512 n) (.n 512 b) K=K (.n 512 (n%b)):=by
 show bC true (bC true (bC (Aj 512 n) (bC (Aj 512 b) (bC (Nat.ble 1 b) (qh (Nat.mod n b) 512 K) false) false) false) false) false=_
 rw [CB hn,CB hb,Nat.ble_eq_true_of_le h1,h_];rfl
theorem EW {n:Nat} {K:KF} (hn:n<256):cO 36893488147419103233 18446744073709551616 (.n 512 n) K=K (.n 36893488147419103233 n):=by
 show bC (Aj 512 n) (qh (Nat.mod n 18446744073709551616) 36893488147419103233 K) _=_
 rw [CB hn,jf,h_,show Nat.mod n 18446744073709551616=n from Nat.mod_eq_of_lt (by omega)]
theorem EX {n:Nat} {K:KF} (hn:n<256):jQ 36893488147419103233 18446744073709551616 (.n 36893488147419103233 n) (.n 36893488147419103233 16) K=K (.n 36893488147419103233 (n / 16)):=by
 show bC true (bC true (bC (Nat.ble n 9223372036854775807) (bC true (bC true (qh (Nat.div n 16) 36893488147419103233 K) false) false) false) false) false=_
 rw [Nat.ble_eq_true_of_le (by omega),h_];rfl
theorem Jc (a b:FV)(s:GS)(K:KS):KW TT 1000 4 [a,b] s K=KH (KW TT 999) (goN T4.get (KW TT 999) K 1000000000) K a b s:=by kernel_rfl
theorem n_rep {r:Rn} {g:Go} {K:KS} {s:GS} {n m:Nat} (hn:n<256)(hm:m<256):KH r g K (.n 512 n) (.n 512 m) s=KH r g K (.n 512 (16*(n / 16))) (.n 512 (m%4)) s:=by
 unfold KH
 simp only [EU hm (show 4<256 by omega) (by omega),EU (show m%4<256 by omega) (show 4<256 by omega) (by omega),Nat.mod_mod,EW hn,EW (show 16*(n / 16)<256 by omega),EX hn,EX (show 16*(n / 16)<256 by omega),show 16*(n / 16) / 16=n / 16 by omega]
theorem n_low:∀i j,i<16→j<4→bU TT 1000 4 [.n 512 (16*i),.n 512 j] G0 isTrue=true
 | 0,0,_,_=>nr0_0
 | 0,1,_,_=>nr0_1
 | 0,2,_,_=>nr0_2
 | 0,3,_,_=>nr0_3
 | 1,0,_,_=>nr1_0
 | 1,1,_,_=>nr1_1
 | 1,2,_,_=>nr1_2
 | 1,3,_,_=>nr1_3
 | 2,0,_,_=>nr2_0
 | 2,1,_,_=>nr2_1
 | 2,2,_,_=>nr2_2
 | 2,3,_,_=>nr2_3
 | 3,0,_,_=>nr3_0
 | 3,1,_,_=>nr3_1
 | 3,2,_,_=>nr3_2
 | 3,3,_,_=>nr3_3
 | 4,0,_,_=>nr4_0
 | 4,1,_,_=>nr4_1
 | 4,2,_,_=>nr4_2
 | 4,3,_,_=>nr4_3
 | 5,0,_,_=>nr5_0
 | 5,1,_,_=>nr5_1
 | 5,2,_,_=>nr5_2
 | 5,3,_,_=>nr5_3
 | 6,0,_,_=>nr6_0
 | 6,1,_,_=>nr6_1
 | 6,2,_,_=>nr6_2
 | 6,3,_,_=>nr6_3
 | 7,0,_,_=>nr7_0
 | 7,1,_,_=>nr7_1
 | 7,2,_,_=>nr7_2
 | 7,3,_,_=>nr7_3
 | 8,0,_,_=>nr8_0
 | 8,1,_,_=>nr8_1
 | 8,2,_,_=>nr8_2
 | 8,3,_,_=>nr8_3
 | 9,0,_,_=>nr9_0
 | 9,1,_,_=>nr9_1
 | 9,2,_,_=>nr9_2
 | 9,3,_,_=>nr9_3
 | 10,0,_,_=>nr10_0
 | 10,1,_,_=>nr10_1
 | 10,2,_,_=>nr10_2
 | 10,3,_,_=>nr10_3
 | 11,0,_,_=>nr11_0
 | 11,1,_,_=>nr11_1
 | 11,2,_,_=>nr11_2
 | 11,3,_,_=>nr11_3
 | 12,0,_,_=>nr12_0
 | 12,1,_,_=>nr12_1
 | 12,2,_,_=>nr12_2
 | 12,3,_,_=>nr12_3
 | 13,0,_,_=>nr13_0
 | 13,1,_,_=>nr13_1
 | 13,2,_,_=>nr13_2
 | 13,3,_,_=>nr13_3
 | 14,0,_,_=>nr14_0
 | 14,1,_,_=>nr14_1
 | 14,2,_,_=>nr14_2
 | 14,3,_,_=>nr14_3
 | 15,0,_,_=>nr15_0
 | 15,1,_,_=>nr15_1
 | 15,2,_,_=>nr15_2
 | 15,3,_,_=>nr15_3
 | i+16,_,h,_=>absurd h (by omega)
 | _,j+4,_,h=>absurd h (by omega)
theorem n_all {n m:Nat} (hn:n<256)(hm:m<256):bU TT 1000 4 [.n 512 n,.n 512 m] G0 isTrue=true:=by
 have e:(fun s=>KW TT 1000 4 [.n 512 n,.n 512 m] s fun v _=>isTrue v)=(fun s=>KW TT 1000 4 [.n 512 (16*(n / 16)),.n 512 (m%4)] s fun v _=>isTrue v):=funext fun s=>((Jc _ _ s _).trans (n_rep hn hm)).trans (Jc _ _ s _).symm
 have h:=n_low (n / 16) (m%4) (by omega) (by omega)
 unfold bU at h ⊢
 rw [e];exact h
end Go.dB.YtnbdedokjfpckaaGreatDoor
namespace Go.Proofs.YtnbdedokjfpckaaGreatDoor
open Go Go.ChangeShapes Go.WideShapes Go.ChangeAt Go.ChangeMaps Go.RowKit Go.dB Go.dB.YtnbdedokjfpckaaGreatDoor
set_option maxRecDepth 100000
theorem CG {m:Int} (hm:(Lit.int .u8 m).wf=true):∃n:Nat,n<256∧m=(n:Int):=by
 have h2:(decide ((0:Int)≤m) && decide (m≤255))=true:=hm
 rw [Bool.and_eq_true,decide_eq_true_eq,decide_eq_true_eq] at h2
 exact⟨m.toNat,by omega,by omega⟩
theorem CJ {n:Nat} (hn:n<256):FV.av (.n 512 n)= .i .u8 n:=by rw [Ja,Nat.mod_eq_of_lt hn]
theorem CO (os:Os)(started:os.Started)(H:Type)(enc:TypeId×Value→H) :
 ReturnsInHanded {} Tryz.checked os 4 .any (fun w args=>(Rows.hartNeedsSpec.pre enc Tryz.prog Tryz.f4 [] false w args∧laidMetH Tryz.prog Rows.hartNeedsRow.laid w)∧sizedMet enc Tryz.prog Tryz.f4 (OpenSpec.ofChange Rows.hartNeedsSpec) false w args)
  (Rows.hartNeedsSpec.post enc Tryz.prog Tryz.f4 false true false false):=by
 refine oH (C:=Tryz.checked) (X:=fun w _=>laidMetH Tryz.prog Rows.hartNeedsRow.laid w) (fun _ _ _ hh h=>h.of_heap hh) own started (by kernel_rfl) Tryz.func4
  (ChangeSpec.witness_shaped (enc:=enc) (C:=Tryz.checked) (os:=os) (X:=fun w _=>laidMetH Tryz.prog Rows.hartNeedsRow.laid w) false (w0 os) #[.int .u8 0,.int .u8 0] 8 rfl (World.shaped_of_RefB (by kernel_rfl) (by kernel_rfl)) (by kernel_rfl) (by kernel_rfl) (by kernel_rfl) (laid_met os _)) ?_
 intro W base args ds gs before hsh hval0 hW hL
 have hval:∀(j:Nat) t v,Tryz.f4.params[j]? =some t→args[j]? =some v→Value.okWide Tryz.prog W .any base t v:=hval0
 have hW':=hW
 obtain⟨p,q,hA0,hV,rfl,hfz,hnd⟩:=hW
 have hA:DataW.TrodAll enc Tryz.prog W 0 (fun _=>true) true Tryz.f4.params.toList args.toList ds p:=hA0
 rw [Tryz.params4] at hA hval
 obtain⟨v0,v1,d0,d1,p0,p1,rfl,rfl,rfl,h0,h1⟩:=trodAll_two hA
 obtain⟨rfl,rfl⟩:=trodVars_none hV
 obtain⟨m,rfl,rfl,rfl,hm⟩:=open_int Tryz.underlying5 (hval 0 5 v0 rfl rfl) h0
 obtain⟨m1,rfl,rfl,rfl,hm1⟩:=open_int Tryz.underlying5 (hval 1 5 v1 rfl rfl) h1
 obtain⟨n,hn,rfl⟩:=CG hm
 obtain⟨n1,hn1,rfl⟩:=CG hm1
 have hst:=Ah hsh (yj hL)
 have hen:Enters Tryz.prog 4:=mJ Tryz.func4 (by kernel_rfl) (by kernel_rfl)
 refine(((AP D9 TT_ok (n_all hn hn1) hst (aY:=#[.int .u8 n,.int .u8 n1]) ⟨_,_,rfl,by rw [CJ hn];rfl,_,[],rfl,by rw [CJ hn1];rfl,rfl⟩).calls hen)).mono fun e W' ha=>?_
 obtain⟨r,σ',hr,haf⟩:=ha
 have hr:=AQ hr
 rw [hr] at haf
 obtain⟨v,μ',rfl,hv,hb⟩:=vw okG0 haf
 simp only [aO] at hv
 subst hv
 refine⟨_,rfl,_,_,_,[],[],[],hW',?_,?_,rfl,hb.frame _,fun h=>by cases h⟩
 ·exact trodAll_mk1 (shut_bool Tryz.underlying4 true)
 ·exact trodAll_mk2 (shut_int Tryz.underlying5 hm) (shut_int Tryz.underlying5 hm1)
theorem EY:Rows.HartNeedsSaid:=
 OpenClaim.holds_of_wide 4 Tryz.f4 rfl rfl rfl rfl rfl rfl rfl ⟨rfl,rfl,rfl,rfl,rfl⟩ rfl rfl rfl rfl rfl (by kernel_rfl) Tryz.func4 (by kernel_rfl)
  (of_decide_eq_true (by kernel_rfl)) (by unfold Func.isWrapper;first | (rw [if_pos (by decide +kernel)];kernel_rfl) | (rw [if_neg (by decide +kernel)];exact⟨rfl,rfl⟩))
  (fun os started H enc _=>CO os started H enc)
theorem needs_card:Rows.HartNeedsCardSaid:=
 Claim7.holds_tied_plain_at .later [] Rows.hartNeedsCard.laidKinds true Rows.hartNeedsCard.stood.harness true
  EY (fun _ h=>by cases h) (by kernel_rfl) (fun _ h=>by cases h) hartNeeds_row_tie rfl ⟨rfl,rfl⟩ (by kernel_rfl) rfl
  (fun f fn hf hfn=>by
   obtain rfl:f=4:=Option.some.inj ((show Tryz.prog.funcNamed "fallow/fallowlaw28.HartNeeds" =some 4 by kernel_rfl).symm.trans hf) |>.symm
   obtain rfl:fn=Tryz.f4:=(Option.some.inj (Tryz.func4.symm.trans hfn)).symm
   exact⟨by kernel_rfl,fun j t ht=>by
       rw [Tryz.params4] at ht
       have hm:t∈[5,5]:=by simpa using Array.mem_of_getElem? ht
       have hall:([5,5].all fun u=>!Tryz.prog.wantsStandIn u)=true:=by kernel_rfl
       exact(show Tryz.prog.wantsStandIn t=false by simpa using List.all_eq_true.1 hall t hm)⟩)
  (by kernel_rfl)
#print axioms needs_card
end Go.Proofs.YtnbdedokjfpckaaGreatDoor
