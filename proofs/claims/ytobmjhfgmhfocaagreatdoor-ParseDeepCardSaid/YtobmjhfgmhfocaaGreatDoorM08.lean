/- Texts of this claim, joined: Ctx. -/
import Derived.Test.YtobmjhfgmhfocaaGreatDoorM04
import Derived.Test.YtobmjhfgmhfocaaGreatDoorM06
import Derived.Test.YtobmjhfgmhfocaaGreatDoorM07
import Derived.Test.YtobmjhfgmhfocaaGreatDoorM05
set_option linter.unusedVariables false
set_option linter.unusedSimpArgs false
namespace Go.bK.YtobmjhfgmhfocaaGreatDoor
open Go.Proofs Go.RowKit Go.Extern
def lq:List AV→St→Option (AV×St)
 | [.s l,.i .u8 c],σ=>some (.i .i64 (Lib.indexByte l c.toNat.toUInt8),σ)
 | _,_=>none
def iq:List AV→St→Option (AV×St)
 | [.s l,.i .i64 10,.i .i64 32],σ=>if l.length≤281474976710656 then(match Lib.parseUintB 32 l with
   | .ok u=>some (.tu [.i .u64 u,.eG],σ)
   | .range=>(match (σ[5]? :Option AO) with
     | some ⟨0,_,.cells _ (.ic _ _ :: _)⟩=>some (.tu [.i .u64 4294967295,.ic 176 .u],σ)
     | _=>none)
   | _=>none) else none
 | _,_=>none
def MV:List AV:=Lib.pow10Tab.map (AV.i .u64)
def CQ (σ:St):Bool:=match (σ[6]? :Option AO) with
 | some ⟨0,true,.cells _ cs⟩=>AV.eqvs cs MV
 | _=>false
def lS:List AV→St→Option (AV×St)
 | [.i .u64 n,.i .i64 10],σ=>if 0≤n∧n<18446744073709551616∧(n<100∨CQ σ=true) then some (.s (Lib.decDigits n.toNat),σ) else none
 | _,_=>none
def xC:List AV→St→Option (AV×St)
 | [.s l,.i .i64 n],σ=>if 0≤n∧n≤9223372036854775807∧l.length*n.toNat≤140737488355328 then some (.s (Lib.repeatL l n.toNat),σ) else none
 | _,_=>none
noncomputable def pAs:List AV→St→Option (AV×St)
 | [.eG,_],σ=>some (.b false,σ)
 | [.ic 101 (.p o g off),.ic 119 (.p o2 g2 off2)],σ=>(match (σ[0]? :Option AO) with
   | some ⟨0,_,.cells _ (.ic 180 (.ag [.p 10 0 36]) :: _)⟩=>(gJ (aF Tryz.prog 101) (.p o2 g2 off2) (.p o g off) σ).map (.b true,·)
   | _=>none)
 | _,_=>none
def Bq:List AV→St→Option (AV×St)
 | [.ic 23 _],σ=>some (.ic 180 (.ag [.p 10 0 23]),σ)
 | _,_=>none
def oq:List AV→St→Option (AV×St)
 | [.ag [.p 10 0 23]],σ=>some (.b true,σ)
 | _,_=>none
noncomputable def Ug:Nat→Option (List AV→St→Option (AV×St))
 | 42=>some lq
 | 47=>some iq
 | 174=>some lS
 | 138=>some xC
 | 51=>some pAs
 | 91=>some Bq
 | 221=>some oq
 | _=>none
def Uh:Nat→String→AV→Option (Nat×AV)
 | 180,"Comparable",.ag [a]=>some (221,.ag [a])
 | 101,"Unwrap",.p o g off=>some (212,.p o g off)
 | _,_,_=>none
@[reducible] noncomputable def XB:Ctx:=⟨Tryz.prog,fns,Ug,Uh,fun f=>Nat.beq f 64⟩
theorem xE (h:Value)(w:World):(Go.method 382 180 (.agg #[h]) "Comparable").run Tryz.prog w= .ok (221,.agg #[h]) w:=by kernel_rfl
theorem EI (a:Addr)(w:World):(Go.method 382 101 (.pointer (some a)) "Unwrap").run Tryz.prog w= .ok (212,.pointer (some a)) w:=by kernel_rfl
theorem Hy (v:Value)(w:World):(ReflectliteType.typeOf #[.iface 23 v]).run Tryz.prog w= .ok (.iface 180 (.agg #[.pointer (some ⟨10,23,none⟩)])) w:=by kernel_rfl
theorem yV (w:World):(ReflectliteType.method (fun t=>do Rtype.noPackHeld "Comparable" t;pure (.bool (←typeInfo t).comparable)) #[.agg #[.pointer (some ⟨10,23,none⟩)]]).run Tryz.prog w= .ok (.bool true) w:=by kernel_rfl
theorem Ui:XB.P.types.size+Made.depth=382:=by kernel_rfl
theorem gPow:Tryz.prog.globalNamed "internal/strconv.uint64pow10" =some 6:=by kernel_rfl
theorem Uj:XB.P.follows .mixedOrders=true:=by kernel_rfl
section
variable {μ:Mu} {σ σ':St} {w:World} {args:List AV} {r:AV} {aV:Array Value}
theorem Uk (l:List UInt8):(⟨l.toArray⟩:ByteArray).data.toList=l:=by simp
theorem Ul (l:List UInt8):(⟨l.toArray⟩:ByteArray).size=l.length:=by simp [ByteArray.size]
theorem Um (hs:fP 11 μ σ w)(h:CQ σ=true):Lib.TabIs Tryz.prog w "internal/strconv.uint64pow10" .u64 Lib.pow10Tab:=by
 unfold CQ at h
 split at h
 ·rename_i e cs ho
  have h:=AV.jX _ _ h
  subst h
  obtain⟨cZ,fr,q1,_,q3⟩:=hs.tab (by omega) ho
  have q4:=CZ q3
  unfold Lib.TabIs World.var?
  rw [gPow]
  simp only [Option.bind_some,q1]
  rw [←q4]
 ·cases h
theorem Qu {f:Nat} (he:Enters Tryz.prog f) {u:Value} (hs:fP 11 μ σ w)(hu:aJ μ w r u)(h:Calls Tryz.prog f aV w fun e w'=>e= .returned u∧w'= w):Does Tryz.prog f aV w (After 11 μ σ w r σ):=
 Does.iy he (h.mono fun e w' q=>by obtain⟨rfl,rfl⟩:=q;exact⟨_,μ,rfl,hu,Step.refl hs⟩)
theorem C_ {f:Nat} (he:Enters Tryz.prog f) {u:Value} (hs:fP 11 μ σ w)(hu:∀w',aJ μ w' r u)(h:Calls Tryz.prog f aV w fun e w'=>e= .returned u∧Below w.heap.size w w'):Does Tryz.prog f aV w (After 11 μ σ w r σ):=
 Does.iy he (h.mono fun e w' q=>by obtain⟨rfl,hb⟩:=q;exact⟨_,μ,rfl,hu w',Step.of_below hs hb⟩)
theorem grown_below (n:Nat)(os:Array Obj):Below w.heap.size w (Go.Sort.grow (w.drewN n) os):=⟨rfl,rfl,rfl,by simp [Go.Sort.grow],fun i hi=>by
 show ((w.drewN n).heap ++ os)[i]? =_
 rw [Array.getElem?_append_left (by show i<w.heap.size;omega)];rfl⟩
theorem Dc (h:lS args σ=some (r,σ'))(hs:fP 11 μ σ w)(hr:aQ μ w args aV.toList):Does Tryz.prog 174 aV w (After 11 μ σ w r σ'):=by
 unfold lS at h
 split at h
 ·rename_i n
  split at h
  ·rename_i hc
   cases h
   obtain⟨v,u,rfl,h1,h2⟩:=pz hr
   simp only [aJ] at h1 h2
   subst h1;subst h2
   obtain⟨k,rfl⟩:∃k:Nat,n=k:=⟨n.toNat,by omega⟩
   by_cases hk:k<100
   ·exact Qu (gQ Tryz.func174 (by kernel_rfl) (by kernel_rfl)) hs rfl (yU k hk w)
   ·exact C_ (gQ Tryz.func174 (by kernel_rfl) (by kernel_rfl)) hs (fun _=>rfl) ((C9 k (by omega) (by omega) w (Um hs (hc.2.2.resolve_left (by omega)))).mono fun e w' q=>by
     obtain⟨rfl,k,os,rfl⟩:=q;exact⟨rfl,grown_below k os⟩)
  ·cases h
 ·cases h
theorem MW (h:xC args σ=some (r,σ'))(hs:fP 11 μ σ w)(hr:aQ μ w args aV.toList):Does Tryz.prog 138 aV w (After 11 μ σ w r σ'):=by
 unfold xC at h
 split at h
 ·rename_i l n
  split at h
  ·rename_i hc
   cases h
   obtain⟨v,u,rfl,h1,h2⟩:=pz hr
   simp only [aJ] at h1 h2
   subst h1;subst h2
   obtain⟨k,rfl⟩:∃k:Nat,n=k:=⟨n.toNat,by omega⟩
   have hq:=Tryz.strings_Repeat ⟨l.toArray⟩ k w (by omega) (by rw [Ul];simpa using hc.2.2)
   rw [Uk] at hq
   exact C_ (gQ Tryz.func138 (by kernel_rfl) (by kernel_rfl)) hs (fun _=>rfl) hq
  ·cases h
 ·cases h
theorem EJ (h:lq args σ=some (r,σ'))(hs:fP 11 μ σ w)(hr:aQ μ w args aV.toList):Does Tryz.prog 42 aV w (After 11 μ σ w r σ'):=by
 unfold lq at h
 split at h
 ·rename_i l c
  cases h
  obtain⟨v,u,rfl,h1,h2⟩:=pz hr
  simp only [aJ] at h1 h2
  subst h1;subst h2
  refine Does.iy (gQ Tryz.func42 (by kernel_rfl) (by kernel_rfl)) ((Tryz.strings_IndexByte ⟨l.toArray⟩ c w).mono fun e w' he=>?_)
  obtain⟨rfl,rfl⟩:=he
  exact⟨_,μ,rfl,rfl,Step.refl hs⟩
 ·cases h
theorem EK (h:iq args σ=some (r,σ'))(hs:fP 11 μ σ w)(hr:aQ μ w args aV.toList):Does Tryz.prog 47 aV w (After 11 μ σ w r σ'):=by
 have he:=gQ Tryz.func47 (by kernel_rfl) (by kernel_rfl)
 unfold iq at h
 split at h
 ·rename_i l
  obtain⟨v,u,t,rfl,h1,h2,h3⟩:=JG hr
  simp only [aJ] at h1 h2 h3
  subst h1;subst h2;subst h3
  split at h
  ·rename_i hl
   have hsz:(⟨l.toArray⟩:ByteArray).size≤281474976710656:=by simpa [ByteArray.size] using hl
   split at h
   ·rename_i n hn
    cases h
    refine Does.iy he ((Tryz.strconv_ParseUint_10_at32_ok ⟨l.toArray⟩ (by omega) n (by simpa using hn) w).mono fun e w' hew=>?_)
    obtain⟨rfl,hw⟩:=hew
    refine⟨_,μ,rfl,⟨_,rfl,.int .u64 n,_,rfl,rfl,.nilIface,[],rfl,rfl,rfl⟩,?_⟩
    rcases hw with rfl | rfl
    ·exact Step.refl hs
    ·exact Step.of_below hs (Lib.bytesWorld_below w _ _)
   ·rename_i hn
    split at h
    ·rename_i ro t0 tp v0 rest hg
     cases h
     have hg0:=hs.qV 5 (by omega)
     obtain⟨c,hc1,hc2⟩:=hs.cell hg hg0
     obtain⟨y,rfl,_⟩:=hc2
     refine Does.iy he ((Tryz.strconv_ParseUint_10_at32_range ⟨l.toArray⟩ hsz (by simpa using hn) (.iface tp y) w hc1 (.inr ⟨tp,y,rfl⟩)).mono fun e w' hew=>?_)
     obtain⟨N,rfl,_,_,hb⟩:=hew
     exact⟨_,μ,rfl,⟨_,rfl,.int .u64 4294967295,_,rfl,rfl,_,[],rfl,⟨_,rfl,trivial⟩,rfl⟩,Step.of_below hs hb⟩
    ·cases h
   ·cases h
  ·cases h
 ·cases h
theorem MX (h:Bq args σ=some (r,σ'))(hs:fP 11 μ σ w)(hr:aQ μ w args aV.toList):Does Tryz.prog 91 aV w (After 11 μ σ w r σ'):=by
 unfold Bq at h
 split at h
 ·cases h
  obtain⟨v,rfl,y,rfl,hy⟩:=kZ hr
  have h10:=@run_callFunc_extern Tryz.prog 91 _ ReflectliteType.typeOf Tryz.func91 (by kernel_rfl) (by kernel_rfl) (by kernel_rfl) (by kernel_rfl)
  refine Does.JF (by rw [h10,Hy];rfl) ⟨_,μ,rfl,⟨_,rfl,_,rfl,_,[],rfl,⟨_,0,hs.qV 10 (by omega),rfl⟩,rfl⟩,Step.refl hs⟩
 ·cases h
theorem Df (h:oq args σ=some (r,σ'))(hs:fP 11 μ σ w)(hr:aQ μ w args aV.toList):Does Tryz.prog 221 aV w (After 11 μ σ w r σ'):=by
 unfold oq at h
 split at h
 ·cases h
  obtain⟨v,rfl,a,rfl,hy⟩:=kZ hr
  obtain⟨u,rfl,hu⟩:=kZ hy
  obtain⟨b,δ,hb,rfl⟩:=hu
  have hg:=hs.qV 10 (by omega)
  rw [hg] at hb;cases hb
  have h10:=@run_callFunc_extern Tryz.prog 221 _ (ReflectliteType.method fun t=>do Rtype.noPackHeld "Comparable" t;pure (.bool (←typeInfo t).comparable)) Tryz.func221 (by kernel_rfl) (by kernel_rfl) (by kernel_rfl) (by kernel_rfl)
  have hcmp:=yV w
  refine Does.JF (by rw [h10];simp only [Nat.zero_add] at hcmp ⊢;rw [hcmp];rfl) ⟨_,μ,rfl,rfl,Step.refl hs⟩
 ·cases h
theorem pAs_ok (h:pAs args σ=some (r,σ'))(hs:fP 11 μ σ w)(hr:aQ μ w args aV.toList):Does Tryz.prog 51 aV w (After 11 μ σ w r σ'):=by
 have hen:=gQ Tryz.func51 (by kernel_rfl) (by kernel_rfl)
 unfold pAs at h
 split at h
 ·cases h
  obtain⟨v,u,rfl,h1,h2⟩:=pz hr
  simp only [aJ] at h1
  subst h1
  refine Does.iy hen ((as_nil u w).mono fun e w' he=>?_)
  obtain⟨rfl,rfl⟩:=he
  exact⟨_,μ,rfl,rfl,Step.refl hs⟩
 ·rename_i o g off o2 g2 off2
  obtain⟨v,u,rfl,h1,h2⟩:=pz hr
  obtain⟨p1,rfl,h1⟩:=h1
  obtain⟨p2,rfl,h2⟩:=h2
  obtain⟨b,δ,hb,rfl⟩:=h1
  obtain⟨b2,qg,hb2,rfl⟩:=h2
  split at h
  ·rename_i ro t0 rest hg
   obtain⟨c,hc1,hc2⟩:=hs.cell hg (hs.qV 0 (by omega))
   obtain⟨y,rfl,hc2⟩:=hc2
   obtain⟨y2,rfl,hc2⟩:=hc2
   obtain⟨u2,rfl,b3,δ3,hb3,rfl⟩:=kZ hc2
   rw [hs.qV 10 (by omega)] at hb3;cases hb3
   rw [Option.map_eq_some_iff] at h
   obtain⟨σ1,hst,h⟩:=h;cases h
   unfold gJ at hst
   split at hst
   ·rename_i T o3 g3 off3 hT hpe
    cases hpe
    split at hst
    ·rename_i g' ro2 e2 cs ho
     split at hst
     ·rename_i hcond
      obtain⟨rfl,rfl,hl,hone,hle⟩:=hcond
      cases hst
      obtain⟨cZ,fr,q1,q2,q3,q4⟩:=hs.cells ho hb2
      have hTs:T.size=1:=by simpa [AV.cells] using hl.symm
      have hlt:qg+off2<cZ.size:=by omega
      have hcell:w.cell? ⟨b2,qg+off2,none⟩=some cZ[qg+off2]:=by rw [cell_of_heap q1,Array.getElem?_eq_getElem hlt]
      have hfz:w.frozen? ⟨b2,qg+off2,none⟩=false:=by
       have:=q4 rfl (qg+off2) hlt
       simp only [World.frozen?,q1]
       simpa using this
      simp only [Nat.zero_add] at hc1
      refine Does.iy hen ((Ht ⟨b,δ+off,none⟩ ⟨b2,qg+off2,none⟩ _ w hc1 hcell hfz).mono fun e w' he=>?_)
      obtain⟨rfl,w1,hjunk,rfl⟩:=he
      have hst1:=Step.of_below hs hjunk
      have q1':w1.heap[b2]? =some (.cells cZ e2 fr):=by rw [hjunk.block b2 (lt_of_heap q1)];exact q1
      have hcell1:w1.cell? ⟨b2,qg+off2,none⟩=some cZ[qg+off2]:=by rw [cell_of_heap q1',Array.getElem?_eq_getElem hlt]
      have hfz1:w1.frozen? ⟨b2,qg+off2,none⟩=false:=by
       simp only [World.frozen?,q1']
       simp only [World.frozen?,q1] at hfz
       exact hfz
      obtain⟨w2,k1,k2⟩:=Step.store (P:=Tryz.prog) hst1.yJ ho hb2 (ys:=[.p o g off]) (vs:=[.pointer (some ⟨b,δ+off,none⟩)]) (off:=off2) ⟨_,_,rfl,⟨b,δ,hb,rfl⟩,rfl⟩ (by simp [Value.oneCell']) (by simp;omega)
      have hw2:w2=w1.setCell ⟨b2,qg+off2,none⟩ (.pointer (some ⟨b,δ+off,none⟩)):=by
       have hrun:(storeCells ⟨b2,qg+off2,none⟩ [.pointer (some ⟨b,δ+off,none⟩)]).run Tryz.prog w1= .ok () (w1.setCell ⟨b2,qg+off2,none⟩ (.pointer (some ⟨b,δ+off,none⟩))):=by
                simp only [storeCells,Addr.add]
                simp
                rw [run_store Tryz.prog w1 ⟨b2,qg+off2,none⟩ _ _ (by rfl)]
                simp [hcell1,hfz1]
       rw [hrun] at k1
       cases k1;rfl
      subst hw2
      exact⟨_,μ,rfl,rfl,hst1.trans (by simpa [AV.cells] using k2)⟩
     ·cases hst
    ·cases hst
   ·cases hst
  ·cases h
 ·cases h
end
theorem Un:XB.Sound 11 where
 draws:=Uj
 RX:=fun f h=>by
  obtain rfl:=Nat.eq_of_beq_eq_true h
  exact⟨rfl,fun F hF=>TS _ F hF (by decide)⟩
 fns:=fun f F _ h=>by
  by_cases hf:f=161
  ·subst hf
   cases h
   exact .inr Yp
  ·exact .inl (TS f F h (by simpa using hf))
 ok:={
  gG:=by
    intro f g hf args σ r σ' hg μ w aV hs hr
    have hf':Ug f=some g:=hf
    unfold Ug at hf'
    split at hf'
    ·cases hf';exact EJ hg hs hr
    ·cases hf';exact EK hg hs hr
    ·cases hf';exact Dc hg hs hr
    ·cases hf';exact MW hg hs hr
    ·cases hf';exact pAs_ok hg hs hr
    ·cases hf';exact MX hg hs hr
    ·cases hf';exact Df hg hs hr
    ·cases hf'
  meth:=by
    intro t m a k hk μ v w hv
    rw [Ui]
    have hk':Uh t m a=some k:=hk
    unfold Uh at hk'
    split at hk'
    ·cases hk'
     obtain⟨c,rfl,hc⟩:=hv
     obtain⟨u,rfl,hu⟩:=kZ hc
     exact⟨_,xE u w,_,rfl,hc⟩
    ·cases hk'
     obtain⟨b,δ,hb,rfl⟩:=hv
     exact⟨_,EI _ w,b,δ,hb,rfl⟩
    ·cases hk' }
end Go.bK.YtobmjhfgmhfocaaGreatDoor
