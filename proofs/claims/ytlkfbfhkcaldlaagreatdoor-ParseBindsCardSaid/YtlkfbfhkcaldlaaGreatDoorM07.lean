/- Texts of this claim, joined: Ctx. -/
import Derived.Test.YtlkfbfhkcaldlaaGreatDoorM04
import Derived.Test.YtlkfbfhkcaldlaaGreatDoorM05
import Derived.Test.YtlkfbfhkcaldlaaGreatDoorM06
set_option linter.unusedVariables false
set_option linter.unusedSimpArgs false
namespace Go.Abs.YtlkfbfhkcaldlaaGreatDoor
open Go.Proofs Go.RowKit Go.Extern
def rC:List AV→St→Option (AV×St)
 | [.s l,.i .u8 c],σ=>some (.i .i64 (Lib.indexByte l c.toNat.toUInt8),σ)
 | _,_=>none
def jX:List AV→St→Option (AV×St)
 | [.s l,.i .i64 10,.i .i64 32],σ=>if l.length≤281474976710656 then(match Lib.parseUintB 32 l with
   | .ok u=>some (.tu [.i .u64 u,.ic0],σ)
   | .range=>(match (σ[4]? :Option AO) with
     | some ⟨0,_,.cells _ (.ic _ _ :: _)⟩=>some (.tu [.i .u64 4294967295,.ic 158 .u],σ)
     | _=>none)
   | _=>none) else none
 | _,_=>none
def NK:List AV:=Lib.pow10Tab.map (AV.i .u64)
def iV (σ:St):Bool:=match (σ[5]? :Option AO) with
 | some ⟨0,true,.cells _ cs⟩=>AV.eqvs cs NK
 | _=>false
def mM:List AV→St→Option (AV×St)
 | [.i .u64 n,.i .i64 10],σ=>if 0≤n∧n<18446744073709551616∧(n<100∨iV σ=true) then some (.s (Lib.decDigits n.toNat),σ) else none
 | _,_=>none
def yO:List AV→St→Option (AV×St)
 | [.s l,.i .i64 n],σ=>if 0≤n∧n≤9223372036854775807∧l.length*n.toNat≤140737488355328 then some (.s (Lib.repeatL l n.toNat),σ) else none
 | _,_=>none
noncomputable def Um:Nat→Option (List AV→St→Option (AV×St))
 | 48=>some rC
 | 53=>some jX
 | 150=>some mM
 | 107=>some yO
 | _=>none
def meths:Nat→String→AV→Option (Nat×AV):=fun _ _ _=>none
@[reducible] noncomputable def XB:Ctx:=⟨Tryz.prog,fns,Um,meths,fun f=>Nat.beq f 44⟩
theorem gPow:Tryz.prog.globalNamed "internal/strconv.uint64pow10" =some 5:=by kernel_rfl
theorem Un:XB.P.follows .mixedOrders=true:=by kernel_rfl
section
variable {μ:Mu} {σ σ':St} {w:World} {args:List AV} {r:AV} {aO:Array Value}
theorem Uo (l:List UInt8):(⟨l.toArray⟩:ByteArray).data.toList=l:=by simp
theorem Ur (l:List UInt8):(⟨l.toArray⟩:ByteArray).size=l.length:=by simp [ByteArray.size]
theorem Us (hs:g_ 10 μ σ w)(h:iV σ=true):Lib.TabIs Tryz.prog w "internal/strconv.uint64pow10" .u64 Lib.pow10Tab:=by
 unfold iV at h
 split at h
 ·rename_i e cs ho
  have h:=AV.kN _ _ h
  subst h
  obtain⟨dB,fr,q1,_,q3⟩:=hs.tab (by omega) ho
  have q4:=DX q3
  unfold Lib.TabIs World.var?
  rw [gPow]
  simp only [Option.bind_some,q1]
  rw [←q4]
 ·cases h
theorem QW {f:Nat} (he:Enters Tryz.prog f) {u:Value} (hs:g_ 10 μ σ w)(hu:aI μ w r u)(h:Calls Tryz.prog f aO w fun e w'=>e= .returned u∧w'= w):Does Tryz.prog f aO w (After 10 μ σ w r σ):=
 Does.jT he (h.mono fun e w' q=>by obtain⟨rfl,rfl⟩:=q;exact⟨_,μ,rfl,hu,Step.refl hs⟩)
theorem rD {f:Nat} (he:Enters Tryz.prog f) {u:Value} (hs:g_ 10 μ σ w)(hu:∀w',aI μ w' r u)(h:Calls Tryz.prog f aO w fun e w'=>e= .returned u∧Below w.heap.size w w'):Does Tryz.prog f aO w (After 10 μ σ w r σ):=
 Does.jT he (h.mono fun e w' q=>by obtain⟨rfl,hb⟩:=q;exact⟨_,μ,rfl,hu w',Step.of_below hs hb⟩)
theorem grown_below (n:Nat)(os:Array Obj):Below w.heap.size w (Go.Sort.grow (w.drewN n) os):=⟨rfl,rfl,rfl,by simp [Go.Sort.grow],fun i hi=>by
 show ((w.drewN n).heap ++ os)[i]? =_
 rw [Array.getElem?_append_left (by show i<w.heap.size;omega)];rfl⟩
theorem DZ (h:mM args σ=some (r,σ'))(hs:g_ 10 μ σ w)(hr:aJ μ w args aO.toList):Does Tryz.prog 150 aO w (After 10 μ σ w r σ'):=by
 unfold mM at h
 split at h
 ·rename_i n
  split at h
  ·rename_i hc
   cases h
   obtain⟨v,u,rfl,h1,h2⟩:=Aa hr
   simp only [aI] at h1 h2
   subst h1;subst h2
   obtain⟨k,rfl⟩:∃k:Nat,n=k:=⟨n.toNat,by omega⟩
   by_cases hk:k<100
   ·exact QW (iw Tryz.func150 (by kernel_rfl) (by kernel_rfl)) hs rfl (Ad k hk w)
   ·exact rD (iw Tryz.func150 (by kernel_rfl) (by kernel_rfl)) hs (fun _=>rfl) ((DY k (by omega) (by omega) w (Us hs (hc.2.2.resolve_left (by omega)))).mono fun e w' q=>by
     obtain⟨rfl,k,os,rfl⟩:=q;exact⟨rfl,grown_below k os⟩)
  ·cases h
 ·cases h
theorem NM (h:yO args σ=some (r,σ'))(hs:g_ 10 μ σ w)(hr:aJ μ w args aO.toList):Does Tryz.prog 107 aO w (After 10 μ σ w r σ'):=by
 unfold yO at h
 split at h
 ·rename_i l n
  split at h
  ·rename_i hc
   cases h
   obtain⟨v,u,rfl,h1,h2⟩:=Aa hr
   simp only [aI] at h1 h2
   subst h1;subst h2
   obtain⟨k,rfl⟩:∃k:Nat,n=k:=⟨n.toNat,by omega⟩
   have hq:=Tryz.strings_Repeat ⟨l.toArray⟩ k w (by omega) (by rw [Ur];simpa using hc.2.2)
   rw [Uo] at hq
   exact rD (iw Tryz.func107 (by kernel_rfl) (by kernel_rfl)) hs (fun _=>rfl) hq
  ·cases h
 ·cases h
theorem FC (h:rC args σ=some (r,σ'))(hs:g_ 10 μ σ w)(hr:aJ μ w args aO.toList):Does Tryz.prog 48 aO w (After 10 μ σ w r σ'):=by
 unfold rC at h
 split at h
 ·rename_i l c
  cases h
  obtain⟨v,u,rfl,h1,h2⟩:=Aa hr
  simp only [aI] at h1 h2
  subst h1;subst h2
  refine Does.jT (iw Tryz.func48 (by kernel_rfl) (by kernel_rfl)) ((Tryz.strings_IndexByte ⟨l.toArray⟩ c w).mono fun e w' he=>?_)
  obtain⟨rfl,rfl⟩:=he
  exact⟨_,μ,rfl,rfl,Step.refl hs⟩
 ·cases h
theorem FD (h:jX args σ=some (r,σ'))(hs:g_ 10 μ σ w)(hr:aJ μ w args aO.toList):Does Tryz.prog 53 aO w (After 10 μ σ w r σ'):=by
 have he:=iw Tryz.func53 (by kernel_rfl) (by kernel_rfl)
 unfold jX at h
 split at h
 ·rename_i l
  obtain⟨v,u,t,rfl,h1,h2,h3⟩:=KE hr
  simp only [aI] at h1 h2 h3
  subst h1;subst h2;subst h3
  split at h
  ·rename_i hl
   have hsz:(⟨l.toArray⟩:ByteArray).size≤281474976710656:=by simpa [ByteArray.size] using hl
   split at h
   ·rename_i n hn
    cases h
    refine Does.jT he ((Tryz.strconv_ParseUint_10_at32_ok ⟨l.toArray⟩ (by omega) n (by simpa using hn) w).mono fun e w' hew=>?_)
    obtain⟨rfl,hw⟩:=hew
    refine⟨_,μ,rfl,⟨_,rfl,.int .u64 n,_,rfl,rfl,.nilIface,[],rfl,rfl,rfl⟩,?_⟩
    rcases hw with rfl | rfl
    ·exact Step.refl hs
    ·exact Step.of_below hs (Lib.bytesWorld_below w _ _)
   ·rename_i hn
    split at h
    ·rename_i ro t0 tp v0 rest hg
     cases h
     have hg0:=hs.xk 4 (by omega)
     obtain⟨c,hc1,hc2⟩:=hs.cell hg hg0
     obtain⟨y,rfl,_⟩:=hc2
     refine Does.jT he ((Tryz.strconv_ParseUint_10_at32_range ⟨l.toArray⟩ hsz (by simpa using hn) (.iface tp y) w hc1 (.inr ⟨tp,y,rfl⟩)).mono fun e w' hew=>?_)
     obtain⟨N,rfl,_,_,hb⟩:=hew
     exact⟨_,μ,rfl,⟨_,rfl,.int .u64 4294967295,_,rfl,rfl,_,[],rfl,⟨_,rfl,trivial⟩,rfl⟩,Step.of_below hs hb⟩
    ·cases h
   ·cases h
  ·cases h
 ·cases h
end
theorem Ut:XB.Sound 10 where
 draws:=Un
 SS:=fun f h=>by
  obtain rfl:=wJ h
  exact⟨rfl,fun F hF=>Ue _ F hF (by decide)⟩
 fns:=fun f F _ h=>by
  by_cases hf:f=136
  ·subst hf
   cases h
   exact .inr YA
  ·exact .inl (Ue f F h (by simpa using hf))
 ok:={
  fM:=by
    intro f g hf args σ r σ' hg μ w aO hs hr
    have hf':Um f=some g:=hf
    unfold Um at hf'
    split at hf'
    ·cases hf';exact FC hg hs hr
    ·cases hf';exact FD hg hs hr
    ·cases hf';exact DZ hg hs hr
    ·cases hf';exact NM hg hs hr
    ·cases hf'
  meth:=by
    intro t m a k hk
    cases hk }
end Go.Abs.YtlkfbfhkcaldlaaGreatDoor
