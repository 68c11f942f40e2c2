/- Texts of this claim, joined: Td, Te. -/
import Derived.Test.YtnbdedokjfpckaaGreatDoorM20
set_option linter.unusedVariables false
set_option linter.unusedSimpArgs false
namespace Go.cO.YtnbdedokjfpckaaGreatDoor
open Go.Proofs
set_option maxRecDepth 100000
def bU (x:Int)(k:Nat):Bool:=decide (IntKind.u64.wrap ((BitVec.ofInt 64 (x.fdiv (2^(min k 64))) &&& BitVec.ofInt 64 1).toNat:Int)=1)
section
variable {σ:St} {p m w:Nat} {rp rm rw:Bool} {ep em ew:Nat} {ws:List AV}
theorem iP (σ:St):σ.take σ.length=σ:=List.take_of_length_le (Nat.le_refl _)
theorem UF (hp:σ[p]? =some ⟨0,rp,.cells ep [.p m 0 0]⟩):dH XT 77 [.p p 0 0] σ fun a s=>a= .b false∧s=σ:=by
 refine dH.body (F:=F77) aG (lit:=false) rfl rfl (Nat.le_of_ble_eq_true rfl) ?_
 conv=>whnf
 refine fO (dP (T:=yT93) rfl rfl (bW (hp)) rfl) ?_
 conv=>whnf
 exact Fin.flat rfl (iP σ) ⟨rfl,rfl⟩
theorem ug (hm:σ[m]? =some ⟨0,rm,.cells em [.i .i64 256,.sl w 0 0 4 1]⟩)(g:Nat)(hg:g<256):dH XT 132 [.p m 0 0,.i .i64 g] σ fun a s=>a= .b true∧s=σ:=by
 refine dH.body (F:=Le) aG (lit:=false) rfl rfl (Nat.le_of_ble_eq_true rfl) ?_
 conv=>whnf
 refine fO (dP (T:=yT3) rfl rfl (bW (hm)) rfl) ?_
 conv=>whnf
 rw [decide_eq_true (by omega)]
 conv=>whnf
 conv=>whnf
 exact Fin.flat rfl (iP σ) ⟨rfl,rfl⟩
theorem H9 (hm:σ[m]? =some ⟨0,rm,.cells em [.i .i64 256,.sl w 0 0 4 1]⟩)(hw:σ[w]? =some ⟨0,rw,.cells ew ws⟩)(g:Nat)(hg:g<256)(x:Int)(hx:ws[g / 64]? =some (.i .u64 x)) :
 dH XT 81 [.p m 0 0,.i .i64 g] σ fun a s=>a= .b (bU x (g%64))∧s=σ:=by
 refine dH.body (F:=F81) aG (lit:=false) rfl rfl (Nat.le_of_ble_eq_true rfl) ?_
 conv=>whnf
 refine dH.to (ug hm g hg) ?_
 conv=>whnf
 refine fO (dP (T:=yT150) rfl rfl (bW (hm)) rfl) ?_
 conv=>whnf
 refine⟨by decide,((g / 64:Nat):Int),?_,?_⟩
 ·show IntKind.i64.wrap ((g / 64:Nat):Int)=_
  exact wrap_i64 (by omega) (by omega)
 conv=>whnf
 refine⟨g / 64,rfl,by omega,?_⟩
 conv=>whnf
 refine fO (dP (T:=O1) rfl rfl (bW hw) (show ws[0+g / 64*1]? =_ by rw [Nat.zero_add,Nat.mul_one];exact hx)) ?_
 conv=>whnf
 refine⟨by decide,?_⟩
 conv=>whnf
 refine⟨show (0:Int)≤((g%64:Nat):Int) by omega,?_⟩
 conv=>whnf
 have hb:∀(b:Bool),decide (IntKind.u64.wrap ((BitVec.ofInt IntKind.u64.bits (x.fdiv (2^min (((g:Int)).tmod 64).toNat IntKind.u64.bits)) &&& BitVec.ofInt IntKind.u64.bits 1).toNat:Int)=1)=b→bU x (g%64)=b:=fun b h=>h
 cases h:decide (IntKind.u64.wrap ((BitVec.ofInt IntKind.u64.bits (x.fdiv (2^min (((g:Int)).tmod 64).toNat IntKind.u64.bits)) &&& BitVec.ofInt IntKind.u64.bits 1).toNat:Int)=1)
 ·conv=>whnf
  exact Fin.flat rfl (iP σ) ⟨by rw [hb _ h],rfl⟩
 ·conv=>whnf
  exact Fin.flat rfl (iP σ) ⟨by rw [hb _ h],rfl⟩
theorem has_to (hp:σ[p]? =some ⟨0,rp,.cells ep [.p m 0 0]⟩)(hm:σ[m]? =some ⟨0,rm,.cells em [.i .i64 256,.sl w 0 0 4 1]⟩)(hw:σ[w]? =some ⟨0,rw,.cells ew ws⟩)(a:Nat)(ha:a / 16<256)(x:Int)(hx:ws[a / 16 / 64]? =some (.i .u64 x)) :
 dH XT 186 [.p p 0 0,.i .u32 a] σ fun b s=>b= .b (bU x (a / 16%64))∧s=σ:=by
 refine dH.body (F:=Lr) aG (lit:=false) rfl rfl (Nat.le_of_ble_eq_true rfl) ?_
 conv=>whnf
 refine dH.to (UF hp) ?_
 conv=>whnf
 refine fO (dP (T:=yT93) rfl rfl (bW (hp)) rfl) ?_
 conv=>whnf
 refine⟨by decide,((a / 16:Nat):Int),?_,?_⟩
 ·show IntKind.u32.wrap ((a / 16:Nat):Int)=_
  exact wrap_u32 (by omega) (by omega)
 conv=>whnf
 refine⟨((a / 16:Nat):Int),wrap_i64 (by omega) (by omega),?_⟩
 conv=>whnf
 refine dH.to (H9 hm hw (a / 16) ha x hx) ?_
 conv=>whnf
 cases bU x (a / 16%64)
 ·conv=>whnf
  exact Fin.flat rfl (iP σ) ⟨rfl,rfl⟩
 ·conv=>whnf
  exact Fin.flat rfl (iP σ) ⟨rfl,rfl⟩
def AZ (c0 c1 c2 c3 c4 c5 c6:Int):List AV:=[.i .u32 c0,.i .u8 c1,.i .u16 c2,.i .u16 c3,.i .u16 c4,.i .u16 c5,.i .u32 c6]
theorem UG (hp:σ[p]? =some ⟨0,rp,.cells ep [.p m 0 0]⟩)(hm:σ[m]? =some ⟨0,rm,.cells em [.i .i64 256,.sl w 0 0 4 1]⟩)(hw:σ[w]? =some ⟨0,rw,.cells ew ws⟩)(ht:σ.take 10=G0)
 (c0 c1 c2 c3 c4 c5 c6:Int) (a:Nat) (hb:Ai (AZ c0 c1 c2 c3 c4 c5 c6)=some a) (v:Bool) (ha:a / 16<256) (x:Int) (hx:ws[a / 16 / 64]? =some (.i .u64 x)) :
 dH XT 133 [.ag [.p p 0 0],.ag (AZ c0 c1 c2 c3 c4 c5 c6 ++ [.b v])] σ fun b s=>b= .b (v && bU x (a / 16%64))∧s=σ:=by
 have hlp:=(List.getElem?_eq_some_iff.1 hp).1
 have hlm:=(List.getElem?_eq_some_iff.1 hm).1
 have hlw:=(List.getElem?_eq_some_iff.1 hw).1
 refine dH.body (F:=Lh) aG (lit:=false) rfl rfl (Nat.le_of_ble_eq_true rfl) ?_
 conv=>whnf
 have b2:(bg 31 (AV.ag [.i .u32 c0,.i .u8 c1,.i .u16 c2,.i .u16 c3,.i .u16 c4,.i .u16 c5,.i .u32 c6,.b v]).cells (bg 209 (AV.ag [.p p 0 0]).cells σ))[σ.length]? =some ⟨0,false,.cells 209 [.p p 0 0]⟩:=by
  rw [JE (by rw [JF];omega),xP];rfl
 have b3:(bg 31 (AV.ag [.i .u32 c0,.i .u8 c1,.i .u16 c2,.i .u16 c3,.i .u16 c4,.i .u16 c5,.i .u32 c6,.b v]).cells (bg 209 (AV.ag [.p p 0 0]).cells σ))[(bg 209 (AV.ag [.p p 0 0]).cells σ).length]? =some ⟨0,false,.cells 31 (AZ c0 c1 c2 c3 c4 c5 c6 ++ [.b v])⟩:=xP _ _ _
 have ex:Ext σ (bg 31 (AV.ag [.i .u32 c0,.i .u8 c1,.i .u16 c2,.i .u16 c3,.i .u16 c4,.i .u16 c5,.i .u32 c6,.b v]).cells (bg 209 (AV.ag [.p p 0 0]).cells σ)):=((Ext.refl σ).new _ _).new _ _
 generalize bg 31 (AV.ag [.i .u32 c0,.i .u8 c1,.i .u16 c2,.i .u16 c3,.i .u16 c4,.i .u16 c5,.i .u32 c6,.b v]).cells (bg 209 (AV.ag [.p p 0 0]).cells σ)=σ2 at b2 b3 ex ⊢
 generalize (bg 209 (AV.ag [.p p 0 0]).cells σ).length=L3 at b3 ⊢
 have hlen:G0.length=10:=rfl
 have ht2:σ2.take 10=G0:=by
  have h1:10≤σ.length:=by have:=congrArg List.length ht;rw [List.length_take,hlen] at this;omega
  rw [←ht,←ex.take,List.take_take,Nat.min_eq_left h1]
 obtain⟨top,htop⟩:=aac (l:=AZ c0 c1 c2 c3 c4 c5 c6) v hb (σ:=σ2) (by rw [ht2];exact yu _)
 refine fO (uw (T:=LK) rfl rfl (bW b3) (Nat.le_of_ble_eq_true rfl)) ?_
 conv=>whnf
 refine dH.prm rfl htop ?_
 conv=>whnf
 refine fO (dP (T:=yT4) rfl rfl (bW b3) rfl) ?_
 cases v
 ·conv=>whnf
  exact Fin.flat rfl ex.take ⟨rfl,rfl⟩
 ·conv=>whnf
  refine fO (dP (T:=yT53) rfl rfl (bW b2) rfl) ?_
  conv=>whnf
  refine dH.to (has_to (ex.get hp) (ex.get hm) (ex.get hw) a ha x hx) ?_
  conv=>whnf
  rw [Bool.true_and]
  cases bU x (a / 16%64)
  ·conv=>whnf
   exact Fin.flat rfl ex.take ⟨rfl,rfl⟩
  ·conv=>whnf
   exact Fin.flat rfl ex.take ⟨rfl,rfl⟩
end
end Go.cO.YtnbdedokjfpckaaGreatDoor
namespace Go.cO.YtnbdedokjfpckaaGreatDoor
open Go.Proofs
set_option maxRecDepth 100000
theorem Aj {α:Type} {l:List α} {i:Nat} {a:α} (h:l[i]? =some a):l.set i a=l:=by
 obtain⟨hlt,rfl⟩:=List.getElem?_eq_some_iff.1 h
 exact List.set_getElem_self hlt
def doS (σ:St)(f e off nb en:Nat)(cs:List AV)(v b:Bool)(n:Int):St:=
 (σ.set f ⟨0,false,.cells e (cs.set (off+7) (.b (v && !b)))⟩).set nb ⟨0,false,.cells en [.i .i64 (bif v && b then IntKind.i64.wrap (n+1) else n)]⟩
section
variable {σ:St} {p m w f e off sb es nb en:Nat} {rp rm rw rs:Bool} {ep em ew:Nat} {ws cs:List AV}
theorem do_to (hp:σ[p]? =some ⟨0,rp,.cells ep [.p m 0 0]⟩)(hm:σ[m]? =some ⟨0,rm,.cells em [.i .i64 256,.sl w 0 0 4 1]⟩)(hw:σ[w]? =some ⟨0,rw,.cells ew ws⟩)(ht:σ.take 10=G0)
 (c0 c1 c2 c3 c4 c5 c6:Int) (a:Nat) (hb:Ai (AZ c0 c1 c2 c3 c4 c5 c6)=some a) (v:Bool) (ha:a / 16<256) (x:Int) (hx:ws[a / 16 / 64]? =some (.i .u64 x))
 (hs:σ[sb]? =some ⟨0,rs,.cells es [.fn (.func 133) [.ag [.p p 0 0]] []]⟩) (n:Int) (hn:σ[nb]? =some ⟨0,false,.cells en [.i .i64 n]⟩) (hf:σ[f]? =some ⟨0,false,.cells e cs⟩) (hnf:nb≠f)
 (hcs:(cs.drop off).take 8=AZ c0 c1 c2 c3 c4 c5 c6 ++ [.b v]) :
 dH XT 134 [.p f 0 off,.p sb 0 0,.p nb 0 0] σ fun r s=>r= .tu []∧s=doS σ f e off nb en cs v (bU x (a / 16%64)) n:=by
 have hlen:off+8≤cs.length:=by
  have h:=congrArg List.length hcs
  rw [List.length_take,List.length_drop] at h
  simp only [List.length_append,List.length_cons,List.length_nil,AZ] at h
  omega
 have hcv:cs[off+7]? =some (.b v):=by
  have h:=congrArg (fun l=>l[7]?) hcs
  simp only [List.getElem?_take,List.getElem?_drop] at h
  simpa [AZ] using h
 refine dH.body (F:=Lj) aG (lit:=false) rfl rfl (Nat.le_of_ble_eq_true rfl) ?_
 conv=>whnf
 refine fO (dP (T:=yT206) rfl rfl (bW hs) rfl) ?_
 conv=>whnf
 have hload:fG (aN.get 31) (.p f 0 off) σ=some (.ag (AZ c0 c1 c2 c3 c4 c5 c6 ++ [.b v])):=by
  rw [uw (T:=LK) rfl rfl (bW hf) hlen]
  exact congrArg (fun l=>some (AV.ag l)) hcs
 refine fO hload ?_
 conv=>whnf
 refine dH.to (UG hp hm hw ht c0 c1 c2 c3 c4 c5 c6 a hb v ha x hx) ?_
 conv=>whnf
 unfold doS
 cases hvb:v && bU x (a / 16%64)
 ·conv=>whnf
  have e1:(v && !bU x (a / 16%64))=v:=by
   revert hvb
   cases v <;> cases bU x (a / 16%64) <;> decide
  refine Fin.flat rfl (iP σ) ⟨rfl,?_⟩
  rw [e1,Aj hcv,Aj hf]
  exact(Aj hn).symm
 ·conv=>whnf
  have e1:(v && !bU x (a / 16%64))=false:=by
   revert hvb
   cases v <;> cases bU x (a / 16%64) <;> decide
  rw [e1]
  refine fO (qI (T:=yT4) (cs.set (off+7) (.b false)) rfl hf rfl rfl (by show off+7+1≤cs.length;omega) rfl) ?_
  conv=>whnf
  have hn2:(σ.set f ⟨0,false,.cells e (cs.set (off+7) (.b false))⟩)[nb]? =some ⟨0,false,.cells en [.i .i64 n]⟩:=by rw [List.getElem?_set_ne (fun h=>hnf h.symm)];exact hn
  refine fO (dP (T:=yT3) rfl rfl (bW hn2) rfl) ?_
  conv=>whnf
  refine⟨_,rfl,?_⟩
  conv=>whnf
  refine fO (qI (T:=yT3) [.i .i64 (IntKind.i64.wrap (n+1))] rfl hn2 rfl rfl (Nat.le_of_ble_eq_true rfl) rfl) ?_
  conv=>whnf
  exact Fin.same (by rw [List.length_set,List.length_set]) ⟨rfl,rfl⟩
def pDo:List AV→St→Option (AV×St)
 | [.p f 0 off,.p sb 0 0,.p nb 0 0],σ=>if oW (σ.take 10) G0=true∧nb≠f then(match (σ[sb]? :Option AO),(σ[nb]? :Option AO),(σ[f]? :Option AO) with
   | some ⟨0,_,.cells _ [.fn (.func 133) [.ag [.p pp 0 0]] []]⟩,some ⟨0,false,.cells en [.i .i64 n]⟩,some ⟨0,false,.cells e cs⟩=>(match (cs.drop off).take 8,(σ[pp]? :Option AO) with
     | [.i .u32 c0,.i .u8 c1,.i .u16 c2,.i .u16 c3,.i .u16 c4,.i .u16 c5,.i .u32 c6,.b v],some ⟨0,_,.cells _ [.p m 0 0]⟩=>(match (σ[m]? :Option AO) with
       | some ⟨0,_,.cells _ [.i .i64 256,.sl w 0 0 4 1]⟩=>(match (σ[w]? :Option AO),Ai (AZ c0 c1 c2 c3 c4 c5 c6) with
         | some ⟨0,_,.cells _ ws⟩,some a=>(match ws[a / 16 / 64]? with
           | some (.i .u64 x)=>if a / 16<256 then some (.tu [],doS σ f e off nb en cs v (bU x (a / 16%64)) n) else none
           | _=>none)
         | _,_=>none)
       | _=>none)
     | _,_=>none)
   | _,_,_=>none) else none
 | _,_=>none
theorem pDo_to {args:List AV} {r:AV} {σ':St} (h:pDo args σ=some (r,σ')):dH XT 134 args σ fun a s=>a=r∧s=σ':=by
 unfold pDo at h
 split at h
 ·split at h
  ·rename_i f off sb nb hc
   obtain⟨hc1,hc2⟩:=hc
   split at h
   ·rename_i pp en n e cs hs hn hf
    split at h
    ·rename_i c0 c1 c2 c3 c4 c5 c6 v m hcs hp
     split at h
     ·rename_i w hm
      split at h
      ·rename_i ws a hw hb
       split at h
       ·rename_i x hx
        split at h
        ·rename_i ha
         cases h
         exact do_to hp hm hw (lu _ _ hc1) _ _ _ _ _ _ _ _ hb _ ha _ hx hs _ hn hf hc2 hcs
        ·cases h
       ·cases h
      ·cases h
     ·cases h
    ·cases h
   ·cases h
  ·cases h
 ·cases h
end
end Go.cO.YtnbdedokjfpckaaGreatDoor
