/- Texts of this claim, joined: Dg. -/
import Derived.Test.YtlkfbfhkcaldlaaGreatDoorM06
import Derived.Lib.ItoaMem
import Derived.Lib.Walk
import Derived.WalkKit
import Derived.BigCall
import Derived.BigGuard
import Derived.Deep.RegionHeld
import Derived.Test.YtlkfbfhkcaldlaaGreatDoorM07
import Derived.Test.YtlkfbfhkcaldlaaGreatDoorM08
import Derived.Test.YtlkfbfhkcaldlaaGreatDoorM09
import Derived.Lib.ItoaNum
set_option linter.unusedVariables false
set_option linter.unusedSimpArgs false
set_option maxRecDepth 100000
namespace Go.Abs.YtlkfbfhkcaldlaaGreatDoor
open Go.Abs Go.Proofs Go.RowKit Go.Sort Go.Lib
theorem rG (W:World)(b:Nat)(x:UInt8)(h:W.cell? ⟨b,0,none⟩=some (.int .u8 (x.toNat:Int))) :
 (convert 75 9 (.slice (some ⟨b,0,none⟩) 1 1)).run Tryz.prog W= .ok (.string ⟨#[x]⟩) W:=by
 have h1:=run_convert_bytes_back (P:=Tryz.prog) W 75 9 5 ⟨b,0,none⟩ 1 [x] Tryz.underlying75 Tryz.underlying5 Tryz.underlying9 (fun j hj=>by
  have hj0:j=0:=by simp at hj;exact hj
  subst hj0
  exact h)
 exact h1
theorem KR {n:Nat} (h:¬n<10):decDigits n=decDigits (n / 10) ++ [UInt8.ofNat (48+n%10)]:=by rw [decDigits,dif_neg h]
theorem BF (u:Nat)(hu:u<18446744073709551616):∀(w:World),
 Calls Tryz.prog 104 #[.int .u64 u] w fun e w'=>e= .returned (.string ⟨(Lib.decDigits u).toArray⟩)∧∃k os,w'= grow (w.drewN k) os:=by
 intro w
 by_cases hb:u<10
 ·have hd:Lib.decDigits u=[UInt8.ofNat (48+u)]:=by rw [Lib.decDigits,dif_pos hb]
  have h8:((UInt8.ofNat (48+u)).toNat:Int)=48+(u:Int):=by
   rw [UInt8.toNat_ofNat'];omega
  have hcv:(convert 75 9 (.slice (some ⟨w.heap.size,0,none⟩) 1 1)).run Tryz.prog (w.alloc (.cells #[.int .u8 (48+(u:Int))] 5))= .ok (.string ⟨(Lib.decDigits u).toArray⟩) (w.alloc (.cells #[.int .u8 (48+(u:Int))] 5)):=by
   rw [hd]
   exact rG _ _ _ (by rw [h8,World.cell?_alloc_new];rfl)
  clear hd h8
  generalize (⟨(Lib.decDigits u).toArray⟩:ByteArray)=S at hcv ⊢
  go_enter Tryz.func104,Tryz.ntmps104
  go_wp2
  go_ret
  refine⟨rfl,0,#[.cells #[.int .u8 (48+(u:Int))] 5],?_⟩
  rw [alloc_eq_grow];rfl
 ·have ih:=BF (u / 10) (by omega)
  have e10:((u / 10:Nat):Int)=(u:Int) / 10:=by omega
  have ew:IntKind.u64.wrap ((u:Int) / 10)=((u / 10:Nat):Int):=by rw [wrap_u64 (by omega) (by omega)];omega
  have e48:IntKind.u8.wrap (IntKind.u64.wrap (48+(u:Int).tmod 10))=48+(u:Int)%10:=by
   rw [Int.tmod_eq_emod_of_nonneg (by omega),wrap_u64 (by omega) (by omega),wrap_u8 (by omega) (by omega)]
  rw [←ew] at ih
  have hcv:∀(W:World) (b:Nat),W.cell? ⟨b,0,none⟩=some (.int .u8 (IntKind.u8.wrap (IntKind.u64.wrap (48+(u:Int).tmod 10))))→(convert 75 9 (.slice (some ⟨b,0,none⟩) 1 1)).run Tryz.prog W= .ok (.string ⟨#[UInt8.ofNat (48+u%10)]⟩) W:=by
   intro W b h
   refine rG _ _ _ ?_
   rw [h,e48]
   have:((UInt8.ofNat (48+u%10)).toNat:Int)=48+(u:Int)%10:=by rw [UInt8.toNat_ofNat'];omega
   rw [this]
  have hap:(⟨(Lib.decDigits u).toArray⟩:ByteArray)=⟨(Lib.decDigits (u / 10)).toArray⟩ ++ ⟨#[UInt8.ofNat (48+u%10)]⟩:=by
   rw [KR hb];apply ByteArray.ext;simp [ByteArray.data_append]
  have hsz:((⟨(Lib.decDigits (u / 10)).toArray⟩:ByteArray).size:Int)≤20:=by
   show (((Lib.decDigits (u / 10)).toArray.size:Nat):Int)≤20
   rw [List.size_toArray,Lib.decDigits_length]
   have:=Lib.numDigits_eq (u / 10) (by omega) (by omega);split at this <;> omega
  rw [hap]
  clear hap e10 ew e48
  generalize (⟨(Lib.decDigits (u / 10)).toArray⟩:ByteArray)=S at ih hsz ⊢
  generalize UInt8.ofNat (48+u%10)=x at hcv ⊢
  have hcw:∀(k:Nat) (os:Array Obj),(convert 75 9 (.slice (some ⟨w.heap.size,0,none⟩) 1 1)).run Tryz.prog (Go.Sort.grow ((w.alloc (.cells #[.int .u8 (IntKind.u8.wrap (IntKind.u64.wrap (48+(u:Int).tmod 10)))] 5)).drewN k) os)= .ok (.string ⟨#[x]⟩) (Go.Sort.grow ((w.alloc (.cells #[.int .u8 (IntKind.u8.wrap (IntKind.u64.wrap (48+(u:Int).tmod 10)))] 5)).drewN k) os):=fun k os=>hcv _ _ (by
   rw [Go.Sort.cell?_grow _ _ _ (by show w.heap.size<(w.alloc _).heap.size;simp),World.cell?_drewN,World.cell?_alloc_new];rfl)
  go_enter Tryz.func104,Tryz.ntmps104
  go_wp2
  go_region_held (fun w'=>True) (trivial) (first | (go_at_call 104;refine(ih _).mono ?_;rintro e w' ⟨rfl,k,os,rfl⟩))
  all_goals try omega
  all_goals go_wp2
  all_goals go_ret
  all_goals first
  | exact⟨rfl,1+k,_,by rw [alloc_eq_grow,grow_grow]⟩
  | exact⟨rfl,1+k,#[.cells #[.int .u8 (48+(u:Int)%10)] 5] ++ os,by rw [alloc_eq_grow];exact grow_grow (w.drewN (1+k)) _ os⟩
theorem wrap_u32' {n:Int} (h1:0≤n)(h2:n≤4294967295):IntKind.u32.wrap n=n:=by
 simp only [IntKind.wrap,IntKind.signed,IntKind.bits,if_false,nR,Bool.false_and];omega
theorem Ea (u:Nat)(hu:u<4294967296):∀(w:World),
 Calls Tryz.prog 13 #[.int .u32 u] w fun e w'=>e= .returned (.string ⟨(Lib.decDigits u).toArray⟩)∧∃k os,w'= grow (w.drewN k) os:=by
 intro w
 by_cases hb:u<10
 ·have hd:Lib.decDigits u=[UInt8.ofNat (48+u)]:=by rw [Lib.decDigits,dif_pos hb]
  have h8:((UInt8.ofNat (48+u)).toNat:Int)=48+(u:Int):=by
   rw [UInt8.toNat_ofNat'];omega
  have hcv:(convert 75 9 (.slice (some ⟨w.heap.size,0,none⟩) 1 1)).run Tryz.prog (w.alloc (.cells #[.int .u8 (48+(u:Int))] 5))= .ok (.string ⟨(Lib.decDigits u).toArray⟩) (w.alloc (.cells #[.int .u8 (48+(u:Int))] 5)):=by
   rw [hd]
   exact rG _ _ _ (by rw [h8,World.cell?_alloc_new];rfl)
  clear hd h8
  generalize (⟨(Lib.decDigits u).toArray⟩:ByteArray)=S at hcv ⊢
  go_enter Tryz.func13,Tryz.ntmps13
  go_wp2
  go_ret
  refine⟨rfl,0,#[.cells #[.int .u8 (48+(u:Int))] 5],?_⟩
  rw [alloc_eq_grow];rfl
 ·have ih:=Ea (u / 10) (by omega)
  have e10:((u / 10:Nat):Int)=(u:Int) / 10:=by omega
  have ew:IntKind.u32.wrap ((u:Int) / 10)=((u / 10:Nat):Int):=by rw [wrap_u32' (by omega) (by omega)];omega
  have e48:IntKind.u8.wrap (IntKind.u32.wrap (48+(u:Int).tmod 10))=48+(u:Int)%10:=by
   rw [Int.tmod_eq_emod_of_nonneg (by omega),wrap_u32' (by omega) (by omega),wrap_u8 (by omega) (by omega)]
  rw [←ew] at ih
  have hcv:∀(W:World) (b:Nat),W.cell? ⟨b,0,none⟩=some (.int .u8 (IntKind.u8.wrap (IntKind.u32.wrap (48+(u:Int).tmod 10))))→(convert 75 9 (.slice (some ⟨b,0,none⟩) 1 1)).run Tryz.prog W= .ok (.string ⟨#[UInt8.ofNat (48+u%10)]⟩) W:=by
   intro W b h
   refine rG _ _ _ ?_
   rw [h,e48]
   have:((UInt8.ofNat (48+u%10)).toNat:Int)=48+(u:Int)%10:=by rw [UInt8.toNat_ofNat'];omega
   rw [this]
  have hap:(⟨(Lib.decDigits u).toArray⟩:ByteArray)=⟨(Lib.decDigits (u / 10)).toArray⟩ ++ ⟨#[UInt8.ofNat (48+u%10)]⟩:=by
   rw [KR hb];apply ByteArray.ext;simp [ByteArray.data_append]
  have hsz:((⟨(Lib.decDigits (u / 10)).toArray⟩:ByteArray).size:Int)≤20:=by
   show (((Lib.decDigits (u / 10)).toArray.size:Nat):Int)≤20
   rw [List.size_toArray,Lib.decDigits_length]
   have:=Lib.numDigits_eq (u / 10) (by omega) (by omega);split at this <;> omega
  rw [hap]
  clear hap e10 ew e48
  generalize (⟨(Lib.decDigits (u / 10)).toArray⟩:ByteArray)=S at ih hsz ⊢
  generalize UInt8.ofNat (48+u%10)=x at hcv ⊢
  have hcw:∀(k:Nat) (os:Array Obj),(convert 75 9 (.slice (some ⟨w.heap.size,0,none⟩) 1 1)).run Tryz.prog (Go.Sort.grow ((w.alloc (.cells #[.int .u8 (IntKind.u8.wrap (IntKind.u32.wrap (48+(u:Int).tmod 10)))] 5)).drewN k) os)= .ok (.string ⟨#[x]⟩) (Go.Sort.grow ((w.alloc (.cells #[.int .u8 (IntKind.u8.wrap (IntKind.u32.wrap (48+(u:Int).tmod 10)))] 5)).drewN k) os):=fun k os=>hcv _ _ (by
   rw [Go.Sort.cell?_grow _ _ _ (by show w.heap.size<(w.alloc _).heap.size;simp),World.cell?_drewN,World.cell?_alloc_new];rfl)
  go_enter Tryz.func13,Tryz.ntmps13
  go_wp2
  go_region_held (fun w'=>True) (trivial) (first | (go_at_call 13;refine(ih _).mono ?_;rintro e w' ⟨rfl,k,os,rfl⟩))
  all_goals try omega
  all_goals go_wp2
  all_goals go_ret
  all_goals first
  | exact⟨rfl,1+k,_,by rw [alloc_eq_grow,grow_grow]⟩
  | exact⟨rfl,1+k,#[.cells #[.int .u8 (48+(u:Int)%10)] 5] ++ os,by rw [alloc_eq_grow];exact grow_grow (w.drewN (1+k)) _ os⟩
def UM:List AV→St→Option (AV×St)
 | [.i .u64 n],σ=>if 0≤n∧n<18446744073709551616 then some (.s (Lib.decDigits n.toNat),σ) else none
 | _,_=>none
theorem UN (args:List AV)(σ:St)(r:AV)(σ':St)(h:UM args σ=some (r,σ'))(μ:Mu)(w:World)(aO:Array Value)(hs:g_ 10 μ σ w)(hr:aJ μ w args aO.toList):Does Tryz.prog 104 aO w (After 10 μ σ w r σ'):=by
 unfold UM at h
 split at h
 ·rename_i n
  split at h
  ·rename_i hc
   cases h
   obtain⟨v,rfl,h1⟩:=vk hr
   simp only [aI] at h1
   subst h1
   obtain⟨k,rfl⟩:∃k:Nat,n=k:=⟨n.toNat,by omega⟩
   exact rD (iw Tryz.func104 (by kernel_rfl) (by kernel_rfl)) hs (fun _=>rfl) ((BF k (by omega) w).mono fun e w' q=>by
    obtain⟨rfl,k,os,rfl⟩:=q;exact⟨rfl,grown_below k os⟩)
  ·cases h
 ·cases h
def KU:List AV→St→Option (AV×St)
 | [.i .u32 n],σ=>if 0≤n∧n<4294967296 then some (.s (Lib.decDigits n.toNat),σ) else none
 | _,_=>none
theorem UO (args:List AV)(σ:St)(r:AV)(σ':St)(h:KU args σ=some (r,σ'))(μ:Mu)(w:World)(aO:Array Value)(hs:g_ 10 μ σ w)(hr:aJ μ w args aO.toList):Does Tryz.prog 13 aO w (After 10 μ σ w r σ'):=by
 unfold KU at h
 split at h
 ·rename_i n
  split at h
  ·rename_i hc
   cases h
   obtain⟨v,rfl,h1⟩:=vk hr
   simp only [aI] at h1
   subst h1
   obtain⟨k,rfl⟩:∃k:Nat,n=k:=⟨n.toNat,by omega⟩
   exact rD (iw Tryz.func13 (by kernel_rfl) (by kernel_rfl)) hs (fun _=>rfl) ((Ea k (by omega) w).mono fun e w' q=>by
    obtain⟨rfl,k,os,rfl⟩:=q;exact⟨rfl,grown_below k os⟩)
  ·cases h
 ·cases h
end Go.Abs.YtlkfbfhkcaldlaaGreatDoor
