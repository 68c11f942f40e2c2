/- Texts of this claim, joined: Ctx. -/
import Derived.Test.YtjcicgkencfbgaaGreatDoorM04
import Derived.Test.YtjcicgkencfbgaaGreatDoorM06
import Derived.Test.YtjcicgkencfbgaaGreatDoorM07
import Derived.Test.YtjcicgkencfbgaaGreatDoorM05
set_option linter.unusedVariables false
set_option linter.unusedSimpArgs false
namespace Go.bG.YtjcicgkencfbgaaGreatDoor
open Go.Proofs Go.RowKit Go.Extern
def qL:List AV→St→Option (AV×St)
 | [.s l,.i .u8 c],σ=>some (.i .i64 (Lib.indexByte l c.toNat.toUInt8),σ)
 | _,_=>none
def jX:List AV→St→Option (AV×St)
 | [.s l,.i .i64 10,.i .i64 32],σ=>if l.length≤281474976710656 then(match Lib.parseUintB 32 l with
   | .ok u=>some (.tu [.i .u64 u,.gu],σ)
   | .range=>(match (σ[5]? :Option AO) with
     | some ⟨0,_,.cells _ (.ic _ _ :: _)⟩=>some (.tu [.i .u64 4294967295,.ic 154 .u],σ)
     | _=>none)
   | _=>none) else none
 | _,_=>none
def MX:List AV:=Lib.pow10Tab.map (AV.i .u64)
def Dv (σ:St):Bool:=match (σ[6]? :Option AO) with
 | some ⟨0,true,.cells _ cs⟩=>AV.eqvs cs MX
 | _=>false
def sZ:List AV→St→Option (AV×St)
 | [.i .u64 n,.i .i64 10],σ=>if 0≤n∧n<18446744073709551616∧(n<100∨Dv σ=true) then some (.s (Lib.decDigits n.toNat),σ) else none
 | _,_=>none
def Ij:List AV→St→Option (AV×St)
 | [.s l,.i .i64 n],σ=>if 0≤n∧n≤9223372036854775807∧l.length*n.toNat≤140737488355328 then some (.s (Lib.repeatL l n.toNat),σ) else none
 | _,_=>none
noncomputable def pAs:List AV→St→Option (AV×St)
 | [.gu,_],σ=>some (.b false,σ)
 | [.ic 69 (.p o g off),.ic 85 (.p o2 g2 off2)],σ=>(match (σ[0]? :Option AO) with
   | some ⟨0,_,.cells _ (.ic 160 (.ag [.p 10 0 34]) :: _)⟩=>(jW (aJ Tryz.prog 69) (.p o2 g2 off2) (.p o g off) σ).map (.b true,·)
   | _=>none)
 | _,_=>none
def Ik:List AV→St→Option (AV×St)
 | [.ic 23 _],σ=>some (.ic 160 (.ag [.p 10 0 23]),σ)
 | _,_=>none
def tq:List AV→St→Option (AV×St)
 | [.ag [.p 10 0 23]],σ=>some (.b true,σ)
 | _,_=>none
noncomputable def TB:Nat→Option (List AV→St→Option (AV×St))
 | 27=>some qL
 | 32=>some jX
 | 165=>some sZ
 | 139=>some Ij
 | 37=>some pAs
 | 76=>some Ik
 | 207=>some tq
 | _=>none
def TD:Nat→String→AV→Option (Nat×AV)
 | 160,"Comparable",.ag [a]=>some (207,.ag [a])
 | 69,"Unwrap",.p o g off=>some (197,.p o g off)
 | _,_,_=>none
@[reducible] noncomputable def XB:Ctx:=⟨Tryz.prog,fns,TB,TD,fun f=>Nat.beq f 90⟩
theorem yD (h:Value)(w:World):(Go.method 365 160 (.agg #[h]) "Comparable").run Tryz.prog w= .ok (207,.agg #[h]) w:=by kernel_rfl
theorem E_ (a:Addr)(w:World):(Go.method 365 69 (.pointer (some a)) "Unwrap").run Tryz.prog w= .ok (197,.pointer (some a)) w:=by kernel_rfl
theorem Il (v:Value)(w:World):(ReflectliteType.typeOf #[.iface 23 v]).run Tryz.prog w= .ok (.iface 160 (.agg #[.pointer (some ⟨10,23,none⟩)])) w:=by kernel_rfl
theorem z_ (w:World):(ReflectliteType.method (fun t=>do Rtype.noPackHeld "Comparable" t;pure (.bool (←typeInfo t).comparable)) #[.agg #[.pointer (some ⟨10,23,none⟩)]]).run Tryz.prog w= .ok (.bool true) w:=by kernel_rfl
theorem TF:XB.P.types.size+Made.depth=365:=by kernel_rfl
theorem gPow:Tryz.prog.globalNamed "internal/strconv.uint64pow10" =some 6:=by kernel_rfl
theorem TG:XB.P.follows .mixedOrders=true:=by kernel_rfl
section
variable {μ:Mu} {σ σ':St} {w:World} {args:List AV} {r:AV} {aV:Array Value}
theorem TI (l:List UInt8):(⟨l.toArray⟩:ByteArray).data.toList=l:=by simp
theorem TJ (l:List UInt8):(⟨l.toArray⟩:ByteArray).size=l.length:=by simp [ByteArray.size]
theorem TL (hs:gK 11 μ σ w)(h:Dv σ=true):Lib.TabIs Tryz.prog w "internal/strconv.uint64pow10" .u64 Lib.pow10Tab:=by
 unfold Dv at h
 split at h
 ·rename_i e cs ho
  have h:=AV.kM _ _ h
  subst h
  obtain⟨dF,fr,q1,_,q3⟩:=hs.tab (by omega) ho
  have q4:=DK q3
  unfold Lib.TabIs World.var?
  rw [gPow]
  simp only [Option.bind_some,q1]
  rw [←q4]
 ·cases h
theorem P9 {f:Nat} (he:Enters Tryz.prog f) {u:Value} (hs:gK 11 μ σ w)(hu:aO μ w r u)(h:Calls Tryz.prog f aV w fun e w'=>e= .returned u∧w'= w):Does Tryz.prog f aV w (After 11 μ σ w r σ):=
 Does.iR he (h.mono fun e w' q=>by obtain⟨rfl,rfl⟩:=q;exact⟨_,μ,rfl,hu,Step.refl hs⟩)
theorem DN {f:Nat} (he:Enters Tryz.prog f) {u:Value} (hs:gK 11 μ σ w)(hu:∀w',aO μ w' r u)(h:Calls Tryz.prog f aV w fun e w'=>e= .returned u∧Below w.heap.size w w'):Does Tryz.prog f aV w (After 11 μ σ w r σ):=
 Does.iR he (h.mono fun e w' q=>by obtain⟨rfl,hb⟩:=q;exact⟨_,μ,rfl,hu w',Step.of_below hs hb⟩)
theorem grown_below (n:Nat)(os:Array Obj):Below w.heap.size w (Go.Sort.grow (w.drewN n) os):=⟨rfl,rfl,rfl,by simp [Go.Sort.grow],fun i hi=>by
 show ((w.drewN n).heap ++ os)[i]? =_
 rw [Array.getElem?_append_left (by show i<w.heap.size;omega)];rfl⟩
theorem DR (h:sZ args σ=some (r,σ'))(hs:gK 11 μ σ w)(hr:aQ μ w args aV.toList):Does Tryz.prog 165 aV w (After 11 μ σ w r σ'):=by
 unfold sZ at h
 split at h
 ·rename_i n
  split at h
  ·rename_i hc
   cases h
   obtain⟨v,u,rfl,h1,h2⟩:=pY hr
   simp only [aO] at h1 h2
   subst h1;subst h2
   obtain⟨k,rfl⟩:∃k:Nat,n=k:=⟨n.toNat,by omega⟩
   by_cases hk:k<100
   ·exact P9 (g_ Tryz.func165 (by kernel_rfl) (by kernel_rfl)) hs rfl (zZ k hk w)
   ·exact DN (g_ Tryz.func165 (by kernel_rfl) (by kernel_rfl)) hs (fun _=>rfl) ((DL k (by omega) (by omega) w (TL hs (hc.2.2.resolve_left (by omega)))).mono fun e w' q=>by
     obtain⟨rfl,k,os,rfl⟩:=q;exact⟨rfl,grown_below k os⟩)
  ·cases h
 ·cases h
theorem MZ (h:Ij args σ=some (r,σ'))(hs:gK 11 μ σ w)(hr:aQ μ w args aV.toList):Does Tryz.prog 139 aV w (After 11 μ σ w r σ'):=by
 unfold Ij at h
 split at h
 ·rename_i l n
  split at h
  ·rename_i hc
   cases h
   obtain⟨v,u,rfl,h1,h2⟩:=pY hr
   simp only [aO] at h1 h2
   subst h1;subst h2
   obtain⟨k,rfl⟩:∃k:Nat,n=k:=⟨n.toNat,by omega⟩
   have hq:=Tryz.strings_Repeat ⟨l.toArray⟩ k w (by omega) (by rw [TJ];simpa using hc.2.2)
   rw [TI] at hq
   exact DN (g_ Tryz.func139 (by kernel_rfl) (by kernel_rfl)) hs (fun _=>rfl) hq
  ·cases h
 ·cases h
theorem Fa (h:qL args σ=some (r,σ'))(hs:gK 11 μ σ w)(hr:aQ μ w args aV.toList):Does Tryz.prog 27 aV w (After 11 μ σ w r σ'):=by
 unfold qL at h
 split at h
 ·rename_i l c
  cases h
  obtain⟨v,u,rfl,h1,h2⟩:=pY hr
  simp only [aO] at h1 h2
  subst h1;subst h2
  refine Does.iR (g_ Tryz.func27 (by kernel_rfl) (by kernel_rfl)) ((Tryz.strings_IndexByte ⟨l.toArray⟩ c w).mono fun e w' he=>?_)
  obtain⟨rfl,rfl⟩:=he
  exact⟨_,μ,rfl,rfl,Step.refl hs⟩
 ·cases h
theorem Fb (h:jX args σ=some (r,σ'))(hs:gK 11 μ σ w)(hr:aQ μ w args aV.toList):Does Tryz.prog 32 aV w (After 11 μ σ w r σ'):=by
 have he:=g_ Tryz.func32 (by kernel_rfl) (by kernel_rfl)
 unfold jX at h
 split at h
 ·rename_i l
  obtain⟨v,u,t,rfl,h1,h2,h3⟩:=JY hr
  simp only [aO] at h1 h2 h3
  subst h1;subst h2;subst h3
  split at h
  ·rename_i hl
   have hsz:(⟨l.toArray⟩:ByteArray).size≤281474976710656:=by simpa [ByteArray.size] using hl
   split at h
   ·rename_i n hn
    cases h
    refine Does.iR he ((Tryz.strconv_ParseUint_10_at32_ok ⟨l.toArray⟩ (by omega) n (by simpa using hn) w).mono fun e w' hew=>?_)
    obtain⟨rfl,hw⟩:=hew
    refine⟨_,μ,rfl,⟨_,rfl,.int .u64 n,_,rfl,rfl,.nilIface,[],rfl,rfl,rfl⟩,?_⟩
    rcases hw with rfl | rfl
    ·exact Step.refl hs
    ·exact Step.of_below hs (Lib.bytesWorld_below w _ _)
   ·rename_i hn
    split at h
    ·rename_i ro t0 tp v0 rest hg
     cases h
     have hg0:=hs.pU 5 (by omega)
     obtain⟨c,hc1,hc2⟩:=hs.cell hg hg0
     obtain⟨y,rfl,_⟩:=hc2
     refine Does.iR he ((Tryz.strconv_ParseUint_10_at32_range ⟨l.toArray⟩ hsz (by simpa using hn) (.iface tp y) w hc1 (.inr ⟨tp,y,rfl⟩)).mono fun e w' hew=>?_)
     obtain⟨N,rfl,_,_,hb⟩:=hew
     exact⟨_,μ,rfl,⟨_,rfl,.int .u64 4294967295,_,rfl,rfl,_,[],rfl,⟨_,rfl,trivial⟩,rfl⟩,Step.of_below hs hb⟩
    ·cases h
   ·cases h
  ·cases h
 ·cases h
theorem M_ (h:Ik args σ=some (r,σ'))(hs:gK 11 μ σ w)(hr:aQ μ w args aV.toList):Does Tryz.prog 76 aV w (After 11 μ σ w r σ'):=by
 unfold Ik at h
 split at h
 ·cases h
  obtain⟨v,rfl,y,rfl,hy⟩:=lH hr
  have h10:=@run_callFunc_extern Tryz.prog 76 _ ReflectliteType.typeOf Tryz.func76 (by kernel_rfl) (by kernel_rfl) (by kernel_rfl) (by kernel_rfl)
  refine Does.JX (by rw [h10,Il];rfl) ⟨_,μ,rfl,⟨_,rfl,_,rfl,_,[],rfl,⟨_,0,hs.pU 10 (by omega),rfl⟩,rfl⟩,Step.refl hs⟩
 ·cases h
theorem DT (h:tq args σ=some (r,σ'))(hs:gK 11 μ σ w)(hr:aQ μ w args aV.toList):Does Tryz.prog 207 aV w (After 11 μ σ w r σ'):=by
 unfold tq at h
 split at h
 ·cases h
  obtain⟨v,rfl,a,rfl,hy⟩:=lH hr
  obtain⟨u,rfl,hu⟩:=lH hy
  obtain⟨b,δ,hb,rfl⟩:=hu
  have hg:=hs.pU 10 (by omega)
  rw [hg] at hb;cases hb
  have h10:=@run_callFunc_extern Tryz.prog 207 _ (ReflectliteType.method fun t=>do Rtype.noPackHeld "Comparable" t;pure (.bool (←typeInfo t).comparable)) Tryz.func207 (by kernel_rfl) (by kernel_rfl) (by kernel_rfl) (by kernel_rfl)
  have hcmp:=z_ w
  refine Does.JX (by rw [h10];simp only [Nat.zero_add] at hcmp ⊢;rw [hcmp];rfl) ⟨_,μ,rfl,rfl,Step.refl hs⟩
 ·cases h
theorem pAs_ok (h:pAs args σ=some (r,σ'))(hs:gK 11 μ σ w)(hr:aQ μ w args aV.toList):Does Tryz.prog 37 aV w (After 11 μ σ w r σ'):=by
 have hen:=g_ Tryz.func37 (by kernel_rfl) (by kernel_rfl)
 unfold pAs at h
 split at h
 ·cases h
  obtain⟨v,u,rfl,h1,h2⟩:=pY hr
  simp only [aO] at h1
  subst h1
  refine Does.iR hen ((as_nil u w).mono fun e w' he=>?_)
  obtain⟨rfl,rfl⟩:=he
  exact⟨_,μ,rfl,rfl,Step.refl hs⟩
 ·rename_i o g off o2 g2 off2
  obtain⟨v,u,rfl,h1,h2⟩:=pY hr
  obtain⟨p1,rfl,h1⟩:=h1
  obtain⟨p2,rfl,h2⟩:=h2
  obtain⟨b,δ,hb,rfl⟩:=h1
  obtain⟨b2,qC,hb2,rfl⟩:=h2
  split at h
  ·rename_i ro t0 rest hg
   obtain⟨c,hc1,hc2⟩:=hs.cell hg (hs.pU 0 (by omega))
   obtain⟨y,rfl,hc2⟩:=hc2
   obtain⟨y2,rfl,hc2⟩:=hc2
   obtain⟨u2,rfl,b3,δ3,hb3,rfl⟩:=lH hc2
   rw [hs.pU 10 (by omega)] at hb3;cases hb3
   rw [Option.map_eq_some_iff] at h
   obtain⟨σ1,hst,h⟩:=h;cases h
   unfold jW at hst
   split at hst
   ·rename_i T o3 g3 off3 hT hpe
    cases hpe
    split at hst
    ·rename_i g' ro2 e2 cs ho
     split at hst
     ·rename_i hcond
      obtain⟨rfl,rfl,hl,hone,hle⟩:=hcond
      cases hst
      obtain⟨dF,fr,q1,q2,q3,q4⟩:=hs.cells ho hb2
      have hTs:T.size=1:=by simpa [AV.cells] using hl.symm
      have hlt:qC+off2<dF.size:=by omega
      have hcell:w.cell? ⟨b2,qC+off2,none⟩=some dF[qC+off2]:=by rw [cell_of_heap q1,Array.getElem?_eq_getElem hlt]
      have hfz:w.frozen? ⟨b2,qC+off2,none⟩=false:=by
       have:=q4 rfl (qC+off2) hlt
       simp only [World.frozen?,q1]
       simpa using this
      simp only [Nat.zero_add] at hc1
      refine Does.iR hen ((Ig ⟨b,δ+off,none⟩ ⟨b2,qC+off2,none⟩ _ w hc1 hcell hfz).mono fun e w' he=>?_)
      obtain⟨rfl,w1,Zg,rfl⟩:=he
      have hst1:=Step.of_below hs Zg
      have q1':w1.heap[b2]? =some (.cells dF e2 fr):=by rw [Zg.block b2 (lt_of_heap q1)];exact q1
      have hcell1:w1.cell? ⟨b2,qC+off2,none⟩=some dF[qC+off2]:=by rw [cell_of_heap q1',Array.getElem?_eq_getElem hlt]
      have hfz1:w1.frozen? ⟨b2,qC+off2,none⟩=false:=by
       simp only [World.frozen?,q1']
       simp only [World.frozen?,q1] at hfz
       exact hfz
      obtain⟨w2,k1,k2⟩:=Step.store (P:=Tryz.prog) hst1.uF ho hb2 (ys:=[.p o g off]) (vs:=[.pointer (some ⟨b,δ+off,none⟩)]) (off:=off2) ⟨_,_,rfl,⟨b,δ,hb,rfl⟩,rfl⟩ (by simp [Value.oneCell']) (by simp;omega)
      have hw2:w2=w1.setCell ⟨b2,qC+off2,none⟩ (.pointer (some ⟨b,δ+off,none⟩)):=by
       have hrun:(storeCells ⟨b2,qC+off2,none⟩ [.pointer (some ⟨b,δ+off,none⟩)]).run Tryz.prog w1= .ok () (w1.setCell ⟨b2,qC+off2,none⟩ (.pointer (some ⟨b,δ+off,none⟩))):=by
                simp only [storeCells,Addr.add]
                simp
                rw [run_store Tryz.prog w1 ⟨b2,qC+off2,none⟩ _ _ (by rfl)]
                simp [hcell1,hfz1]
       rw [hrun] at k1
       cases k1;rfl
      subst hw2
      exact⟨_,μ,rfl,rfl,hst1.trans (by simpa [AV.cells] using k2)⟩
     ·cases hst
    ·cases hst
   ·cases hst
  ·cases h
 ·cases h
end
theorem TM:XB.Sound 11 where
 draws:=TG
 Q9:=fun f h=>by
  obtain rfl:=Nat.eq_of_beq_eq_true h
  exact⟨rfl,fun F hF=>Tc _ F hF (by decide)⟩
 fns:=fun f F _ h=>by
  by_cases hf:f=156
  ·subst hf
   cases h
   exact .inr XH
  ·exact .inl (Tc f F h (by simpa using hf))
 ok:={
  iQ:=by
    intro f g hf args σ r σ' hg μ w aV hs hr
    have hf':TB f=some g:=hf
    unfold TB at hf'
    split at hf'
    ·cases hf';exact Fa hg hs hr
    ·cases hf';exact Fb hg hs hr
    ·cases hf';exact DR hg hs hr
    ·cases hf';exact MZ hg hs hr
    ·cases hf';exact pAs_ok hg hs hr
    ·cases hf';exact M_ hg hs hr
    ·cases hf';exact DT hg hs hr
    ·cases hf'
  meth:=by
    intro t m a k hk μ v w hv
    rw [TF]
    have hk':TD t m a=some k:=hk
    unfold TD at hk'
    split at hk'
    ·cases hk'
     obtain⟨c,rfl,hc⟩:=hv
     obtain⟨u,rfl,hu⟩:=lH hc
     exact⟨_,yD u w,_,rfl,hc⟩
    ·cases hk'
     obtain⟨b,δ,hb,rfl⟩:=hv
     exact⟨_,E_ _ w,b,δ,hb,rfl⟩
    ·cases hk' }
end Go.bG.YtjcicgkencfbgaaGreatDoor
