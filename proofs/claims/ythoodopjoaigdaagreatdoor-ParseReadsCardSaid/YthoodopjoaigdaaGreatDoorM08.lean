/- Texts of this claim, joined: Ctx. -/
import Derived.Test.YthoodopjoaigdaaGreatDoorM04
import Derived.Test.YthoodopjoaigdaaGreatDoorM06
import Derived.Test.YthoodopjoaigdaaGreatDoorM07
import Derived.Test.YthoodopjoaigdaaGreatDoorM05
set_option linter.unusedVariables false
set_option linter.unusedSimpArgs false
namespace Go.bP.YthoodopjoaigdaaGreatDoor
open Go.Proofs Go.RowKit Go.Extern
def pF:List AV→St→Option (AV×St)
 | [.s l,.i .u8 c],σ=>some (.i .i64 (Lib.indexByte l c.toNat.toUInt8),σ)
 | _,_=>none
def jA:List AV→St→Option (AV×St)
 | [.s l,.i .i64 10,.i .i64 32],σ=>if l.length≤281474976710656 then(match Lib.parseUintB 32 l with
   | .ok u=>some (.tu [.i .u64 u,.fM],σ)
   | .range=>(match (σ[5]? :Option AO) with
     | some ⟨0,_,.cells _ (.ic _ _ :: _)⟩=>some (.tu [.i .u64 4294967295,.ic 165 .u],σ)
     | _=>none)
   | _=>none) else none
 | _,_=>none
def JH:List AV:=Lib.pow10Tab.map (AV.i .u64)
def A8 (σ:St):Bool:=match (σ[6]? :Option AO) with
 | some ⟨0,true,.cells _ cs⟩=>AV.eqvs cs JH
 | _=>false
def qL:List AV→St→Option (AV×St)
 | [.i .u64 n,.i .i64 10],σ=>if 0≤n∧n<18446744073709551616∧(n<100∨A8 σ=true) then some (.s (Lib.decDigits n.toNat),σ) else none
 | _,_=>none
def Fj:List AV→St→Option (AV×St)
 | [.s l,.i .i64 n],σ=>if 0≤n∧n≤9223372036854775807∧l.length*n.toNat≤140737488355328 then some (.s (Lib.repeatL l n.toNat),σ) else none
 | _,_=>none
noncomputable def pAs:List AV→St→Option (AV×St)
 | [.fM,_],σ=>some (.b false,σ)
 | [.ic 40 (.p o g off),.ic 58 (.p o2 g2 off2)],σ=>(match (σ[0]? :Option AO) with
   | some ⟨0,_,.cells _ (.ic 136 (.ag [.p 10 0 24]) :: _)⟩=>(iO (aJ Tryz.prog 40) (.p o2 g2 off2) (.p o g off) σ).map (.b true,·)
   | _=>none)
 | _,_=>none
def zT:List AV→St→Option (AV×St)
 | [.ic 27 _],σ=>some (.ic 136 (.ag [.p 10 0 27]),σ)
 | _,_=>none
def nU:List AV→St→Option (AV×St)
 | [.ag [.p 10 0 27]],σ=>some (.b true,σ)
 | _,_=>none
noncomputable def P7:Nat→Option (List AV→St→Option (AV×St))
 | 24=>some pF
 | 29=>some jA
 | 162=>some qL
 | 135=>some Fj
 | 16=>some pAs
 | 50=>some zT
 | 201=>some nU
 | _=>none
def P8:Nat→String→AV→Option (Nat×AV)
 | 136,"Comparable",.ag [a]=>some (201,.ag [a])
 | 40,"Unwrap",.p o g off=>some (194,.p o g off)
 | _,_,_=>none
@[reducible] noncomputable def XB:Ctx:=⟨Tryz.prog,fns,P7,P8,fun f=>Nat.beq f 84⟩
theorem wo (h:Value)(w:World):(Go.method 364 136 (.agg #[h]) "Comparable").run Tryz.prog w= .ok (201,.agg #[h]) w:=by kernel_rfl
theorem Dk (a:Addr)(w:World):(Go.method 364 40 (.pointer (some a)) "Unwrap").run Tryz.prog w= .ok (194,.pointer (some a)) w:=by kernel_rfl
theorem Fp (v:Value)(w:World):(ReflectliteType.typeOf #[.iface 27 v]).run Tryz.prog w= .ok (.iface 136 (.agg #[.pointer (some ⟨10,27,none⟩)])) w:=by kernel_rfl
theorem xQ (w:World):(ReflectliteType.method (fun t=>do Rtype.noPackHeld "Comparable" t;pure (.bool (←typeInfo t).comparable)) #[.agg #[.pointer (some ⟨10,27,none⟩)]]).run Tryz.prog w= .ok (.bool true) w:=by kernel_rfl
theorem P9:XB.P.types.size+Made.depth=364:=by kernel_rfl
theorem gPow:Tryz.prog.globalNamed "internal/strconv.uint64pow10" =some 6:=by kernel_rfl
theorem P_:XB.P.follows .mixedOrders=true:=by kernel_rfl
section
variable {μ:Mu} {σ σ':St} {w:World} {args:List AV} {r:AV} {aU:Array Value}
theorem Qa (l:List UInt8):(⟨l.toArray⟩:ByteArray).data.toList=l:=by simp
theorem Qb (l:List UInt8):(⟨l.toArray⟩:ByteArray).size=l.length:=by simp [ByteArray.size]
theorem Qc (hs:gK 11 μ σ w)(h:A8 σ=true):Lib.TabIs Tryz.prog w "internal/strconv.uint64pow10" .u64 Lib.pow10Tab:=by
 unfold A8 at h
 split at h
 ·rename_i e cs ho
  have h:=AV.jO _ _ h
  subst h
  obtain⟨dH,fr,q1,_,q3⟩:=hs.tab (by omega) ho
  have q4:=Bo q3
  unfold Lib.TabIs World.var?
  rw [gPow]
  simp only [Option.bind_some,q1]
  rw [←q4]
 ·cases h
theorem Nc {f:Nat} (he:Enters Tryz.prog f) {u:Value} (hs:gK 11 μ σ w)(hu:aO μ w r u)(h:Calls Tryz.prog f aU w fun e w'=>e= .returned u∧w'= w):Does Tryz.prog f aU w (After 11 μ σ w r σ):=
 Does.iF he (h.mono fun e w' q=>by obtain⟨rfl,rfl⟩:=q;exact⟨_,μ,rfl,hu,Step.refl hs⟩)
theorem Bv {f:Nat} (he:Enters Tryz.prog f) {u:Value} (hs:gK 11 μ σ w)(hu:∀w',aO μ w' r u)(h:Calls Tryz.prog f aU w fun e w'=>e= .returned u∧Below w.heap.size w w'):Does Tryz.prog f aU w (After 11 μ σ w r σ):=
 Does.iF he (h.mono fun e w' q=>by obtain⟨rfl,hb⟩:=q;exact⟨_,μ,rfl,hu w',Step.of_below hs hb⟩)
theorem grown_below (n:Nat)(os:Array Obj):Below w.heap.size w (Go.Sort.grow (w.drewN n) os):=⟨rfl,rfl,rfl,by simp [Go.Sort.grow],fun i hi=>by
 show ((w.drewN n).heap ++ os)[i]? =_
 rw [Array.getElem?_append_left (by show i<w.heap.size;omega)];rfl⟩
theorem Bz (h:qL args σ=some (r,σ'))(hs:gK 11 μ σ w)(hr:aP μ w args aU.toList):Does Tryz.prog 162 aU w (After 11 μ σ w r σ'):=by
 unfold qL at h
 split at h
 ·rename_i n
  split at h
  ·rename_i hc
   cases h
   obtain⟨v,u,rfl,h1,h2⟩:=oH hr
   simp only [aO] at h1 h2
   subst h1;subst h2
   obtain⟨k,rfl⟩:∃k:Nat,n=k:=⟨n.toNat,by omega⟩
   by_cases hk:k<100
   ·exact Nc (ig Tryz.func162 (by kernel_rfl) (by kernel_rfl)) hs rfl (xP k hk w)
   ·exact Bv (ig Tryz.func162 (by kernel_rfl) (by kernel_rfl)) hs (fun _=>rfl) ((Bq k (by omega) (by omega) w (Qc hs (hc.2.2.resolve_left (by omega)))).mono fun e w' q=>by
     obtain⟨rfl,k,os,rfl⟩:=q;exact⟨rfl,grown_below k os⟩)
  ·cases h
 ·cases h
theorem JI (h:Fj args σ=some (r,σ'))(hs:gK 11 μ σ w)(hr:aP μ w args aU.toList):Does Tryz.prog 135 aU w (After 11 μ σ w r σ'):=by
 unfold Fj at h
 split at h
 ·rename_i l n
  split at h
  ·rename_i hc
   cases h
   obtain⟨v,u,rfl,h1,h2⟩:=oH hr
   simp only [aO] at h1 h2
   subst h1;subst h2
   obtain⟨k,rfl⟩:∃k:Nat,n=k:=⟨n.toNat,by omega⟩
   have hq:=Tryz.strings_Repeat ⟨l.toArray⟩ k w (by omega) (by rw [Qb];simpa using hc.2.2)
   rw [Qa] at hq
   exact Bv (ig Tryz.func135 (by kernel_rfl) (by kernel_rfl)) hs (fun _=>rfl) hq
  ·cases h
 ·cases h
theorem Dl (h:pF args σ=some (r,σ'))(hs:gK 11 μ σ w)(hr:aP μ w args aU.toList):Does Tryz.prog 24 aU w (After 11 μ σ w r σ'):=by
 unfold pF at h
 split at h
 ·rename_i l c
  cases h
  obtain⟨v,u,rfl,h1,h2⟩:=oH hr
  simp only [aO] at h1 h2
  subst h1;subst h2
  refine Does.iF (ig Tryz.func24 (by kernel_rfl) (by kernel_rfl)) ((Tryz.strings_IndexByte ⟨l.toArray⟩ c w).mono fun e w' he=>?_)
  obtain⟨rfl,rfl⟩:=he
  exact⟨_,μ,rfl,rfl,Step.refl hs⟩
 ·cases h
theorem Dn (h:jA args σ=some (r,σ'))(hs:gK 11 μ σ w)(hr:aP μ w args aU.toList):Does Tryz.prog 29 aU w (After 11 μ σ w r σ'):=by
 have he:=ig Tryz.func29 (by kernel_rfl) (by kernel_rfl)
 unfold jA at h
 split at h
 ·rename_i l
  obtain⟨v,u,t,rfl,h1,h2,h3⟩:=HY hr
  simp only [aO] at h1 h2 h3
  subst h1;subst h2;subst h3
  split at h
  ·rename_i hl
   have hsz:(⟨l.toArray⟩:ByteArray).size≤281474976710656:=by simpa [ByteArray.size] using hl
   split at h
   ·rename_i n hn
    cases h
    refine Does.iF he ((Tryz.strconv_ParseUint_10_at32_ok ⟨l.toArray⟩ (by omega) n (by simpa using hn) w).mono fun e w' hew=>?_)
    obtain⟨rfl,hw⟩:=hew
    refine⟨_,μ,rfl,⟨_,rfl,.int .u64 n,_,rfl,rfl,.nilIface,[],rfl,rfl,rfl⟩,?_⟩
    rcases hw with rfl | rfl
    ·exact Step.refl hs
    ·exact Step.of_below hs (Lib.bytesWorld_below w _ _)
   ·rename_i hn
    split at h
    ·rename_i ro t0 tp v0 rest hg
     cases h
     have hg0:=hs.oV 5 (by omega)
     obtain⟨c,hc1,hc2⟩:=hs.cell hg hg0
     obtain⟨y,rfl,_⟩:=hc2
     refine Does.iF he ((Tryz.strconv_ParseUint_10_at32_range ⟨l.toArray⟩ hsz (by simpa using hn) (.iface tp y) w hc1 (.inr ⟨tp,y,rfl⟩)).mono fun e w' hew=>?_)
     obtain⟨N,rfl,_,_,hb⟩:=hew
     exact⟨_,μ,rfl,⟨_,rfl,.int .u64 4294967295,_,rfl,rfl,_,[],rfl,⟨_,rfl,trivial⟩,rfl⟩,Step.of_below hs hb⟩
    ·cases h
   ·cases h
  ·cases h
 ·cases h
theorem JJ (h:zT args σ=some (r,σ'))(hs:gK 11 μ σ w)(hr:aP μ w args aU.toList):Does Tryz.prog 50 aU w (After 11 μ σ w r σ'):=by
 unfold zT at h
 split at h
 ·cases h
  obtain⟨v,rfl,y,rfl,hy⟩:=kE hr
  have h10:=@run_callFunc_extern Tryz.prog 50 _ ReflectliteType.typeOf Tryz.func50 (by kernel_rfl) (by kernel_rfl) (by kernel_rfl) (by kernel_rfl)
  refine Does.Hz (by rw [h10,Fp];rfl) ⟨_,μ,rfl,⟨_,rfl,_,rfl,_,[],rfl,⟨_,0,hs.oV 10 (by omega),rfl⟩,rfl⟩,Step.refl hs⟩
 ·cases h
theorem BA (h:nU args σ=some (r,σ'))(hs:gK 11 μ σ w)(hr:aP μ w args aU.toList):Does Tryz.prog 201 aU w (After 11 μ σ w r σ'):=by
 unfold nU at h
 split at h
 ·cases h
  obtain⟨v,rfl,a,rfl,hy⟩:=kE hr
  obtain⟨u,rfl,hu⟩:=kE hy
  obtain⟨b,δ,hb,rfl⟩:=hu
  have hg:=hs.oV 10 (by omega)
  rw [hg] at hb;cases hb
  have h10:=@run_callFunc_extern Tryz.prog 201 _ (ReflectliteType.method fun t=>do Rtype.noPackHeld "Comparable" t;pure (.bool (←typeInfo t).comparable)) Tryz.func201 (by kernel_rfl) (by kernel_rfl) (by kernel_rfl) (by kernel_rfl)
  have hcmp:=xQ w
  refine Does.Hz (by rw [h10];simp only [Nat.zero_add] at hcmp ⊢;rw [hcmp];rfl) ⟨_,μ,rfl,rfl,Step.refl hs⟩
 ·cases h
theorem XU (h:pAs args σ=some (r,σ'))(hs:gK 11 μ σ w)(hr:aP μ w args aU.toList):Does Tryz.prog 16 aU w (After 11 μ σ w r σ'):=by
 have hen:=ig Tryz.func16 (by kernel_rfl) (by kernel_rfl)
 unfold pAs at h
 split at h
 ·cases h
  obtain⟨v,u,rfl,h1,h2⟩:=oH hr
  simp only [aO] at h1
  subst h1
  refine Does.iF hen ((as_nil u w).mono fun e w' he=>?_)
  obtain⟨rfl,rfl⟩:=he
  exact⟨_,μ,rfl,rfl,Step.refl hs⟩
 ·rename_i o g off o2 g2 off2
  obtain⟨v,u,rfl,h1,h2⟩:=oH hr
  obtain⟨p1,rfl,h1⟩:=h1
  obtain⟨p2,rfl,h2⟩:=h2
  obtain⟨b,δ,hb,rfl⟩:=h1
  obtain⟨b2,oW,hb2,rfl⟩:=h2
  split at h
  ·rename_i ro t0 rest hg
   obtain⟨c,hc1,hc2⟩:=hs.cell hg (hs.oV 0 (by omega))
   obtain⟨y,rfl,hc2⟩:=hc2
   obtain⟨y2,rfl,hc2⟩:=hc2
   obtain⟨u2,rfl,b3,Zr,hb3,rfl⟩:=kE hc2
   rw [hs.oV 10 (by omega)] at hb3;cases hb3
   rw [Option.map_eq_some_iff] at h
   obtain⟨σ1,hst,h⟩:=h;cases h
   unfold iO at hst
   split at hst
   ·rename_i T o3 g3 off3 hT hpe
    cases hpe
    split at hst
    ·rename_i g' ro2 e2 cs ho
     split at hst
     ·rename_i hcond
      obtain⟨rfl,rfl,hl,hone,hle⟩:=hcond
      cases hst
      obtain⟨dH,fr,q1,q2,q3,q4⟩:=hs.cells ho hb2
      have hTs:T.size=1:=by simpa [AV.cells] using hl.symm
      have hlt:oW+off2<dH.size:=by omega
      have hcell:w.cell? ⟨b2,oW+off2,none⟩=some dH[oW+off2]:=by rw [cell_of_heap q1,Array.getElem?_eq_getElem hlt]
      have hfz:w.frozen? ⟨b2,oW+off2,none⟩=false:=by
             have:=q4 rfl (oW+off2) hlt
             simp only [World.frozen?,q1]
             simpa using this
      simp only [Nat.zero_add] at hc1
      refine Does.iF hen ((Fe ⟨b,δ+off,none⟩ ⟨b2,oW+off2,none⟩ _ w hc1 hcell hfz).mono fun e w' he=>?_)
      obtain⟨rfl,w1,Wj,rfl⟩:=he
      have hst1:=Step.of_below hs Wj
      have q1':w1.heap[b2]? =some (.cells dH e2 fr):=by rw [Wj.block b2 (lt_of_heap q1)];exact q1
      have hcell1:w1.cell? ⟨b2,oW+off2,none⟩=some dH[oW+off2]:=by rw [cell_of_heap q1',Array.getElem?_eq_getElem hlt]
      have hfz1:w1.frozen? ⟨b2,oW+off2,none⟩=false:=by
             simp only [World.frozen?,q1']
             simp only [World.frozen?,q1] at hfz
             exact hfz
      obtain⟨w2,k1,k2⟩:=Step.store (P:=Tryz.prog) hst1.rJ ho hb2 (ys:=[.p o g off]) (vs:=[.pointer (some ⟨b,δ+off,none⟩)]) (off:=off2) ⟨_,_,rfl,⟨b,δ,hb,rfl⟩,rfl⟩ (by simp [Value.oneCell']) (by simp;omega)
      have hw2:w2=w1.setCell ⟨b2,oW+off2,none⟩ (.pointer (some ⟨b,δ+off,none⟩)):=by
             have hrun:(storeCells ⟨b2,oW+off2,none⟩ [.pointer (some ⟨b,δ+off,none⟩)]).run Tryz.prog w1= .ok () (w1.setCell ⟨b2,oW+off2,none⟩ (.pointer (some ⟨b,δ+off,none⟩))):=by
              simp only [storeCells,Addr.add]
              simp
              rw [run_store Tryz.prog w1 ⟨b2,oW+off2,none⟩ _ _ (by rfl)]
              simp [hcell1,hfz1]
             rw [hrun] at k1
             cases k1;rfl
      subst hw2
      exact⟨_,μ,rfl,rfl,hst1.trans (by simpa [AV.cells] using k2)⟩
     ·cases hst
    ·cases hst
   ·cases hst
  ·cases h
 ·cases h
end
theorem Qd:XB.Sound 11 where
 draws:=P_
 Oq:=fun f h=>by
  obtain rfl:=Nat.eq_of_beq_eq_true h
  exact⟨rfl,fun F hF=>PG _ F hF (by decide)⟩
 fns:=fun f F _ h=>by
  by_cases hf:f=154
  ·subst hf
   cases h
   exact .inr UD
  ·exact .inl (PG f F h (by simpa using hf))
 ok:={
  iE:=by
    intro f g hf args σ r σ' hg μ w aU hs hr
    have hf':P7 f=some g:=hf
    unfold P7 at hf'
    split at hf'
    ·cases hf';exact Dl hg hs hr
    ·cases hf';exact Dn hg hs hr
    ·cases hf';exact Bz hg hs hr
    ·cases hf';exact JI hg hs hr
    ·cases hf';exact XU hg hs hr
    ·cases hf';exact JJ hg hs hr
    ·cases hf';exact BA hg hs hr
    ·cases hf'
  meth:=by
    intro t m a k hk μ v w hv
    rw [P9]
    have hk':P8 t m a=some k:=hk
    unfold P8 at hk'
    split at hk'
    ·cases hk'
     obtain⟨c,rfl,hc⟩:=hv
     obtain⟨u,rfl,hu⟩:=kE hc
     exact⟨_,wo u w,_,rfl,hc⟩
    ·cases hk'
     obtain⟨b,δ,hb,rfl⟩:=hv
     exact⟨_,Dk _ w,b,δ,hb,rfl⟩
    ·cases hk' }
end Go.bP.YthoodopjoaigdaaGreatDoor
