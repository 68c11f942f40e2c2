/- Texts of this claim, joined: Ga, Tf. -/
import Derived.Test.YtnbdedokjfpckaaGreatDoorM06
import Derived.Test.YtnbdedokjfpckaaGreatDoorM21
set_option linter.unusedVariables false
set_option linter.unusedSimpArgs false
set_option maxRecDepth 100000
namespace Go.Proofs.Dj
open Go.RowKit Go.Shelf
theorem add_to (bp kp bm km bw k l c:Nat)(n a x:Int)(w:World)(hp:w.cell? ⟨bp,kp,none⟩=some (.pointer (some ⟨bm,km,none⟩)))
 (hn:w.cell? ⟨bm,km,none⟩=some (.int .i64 n)) (hw:w.cell? ⟨bm,km+1,none⟩=some (.slice (some ⟨bw,k,none⟩) l c)) (ha:0≤a) (ha2:a<4294967296) (ha3:a%16=0) (hn2:n<1048577) (hle:a+16≤n*16)
 (h2:0≤wrap64 ((a / 16).tdiv 64)∧wrap64 ((a / 16).tdiv 64)<(l:Int)) (hx:w.cell? ⟨bw,k+(wrap64 ((a / 16).tdiv 64)).toNat,none⟩=some (.int .u64 x)) (hf:w.frozen? ⟨bw,k+(wrap64 ((a / 16).tdiv 64)).toNat,none⟩=false)
 (hb:(bits BinOp.and IntKind.u64 (x / 2^(a / 16%64).toNat) 1 == 1)=false) :
 Calls Tryz.prog 18 #[.pointer (some ⟨bp,kp,none⟩),.agg #[.int .u32 a,.int .u32 16]] w fun e w'=>e= .returned (.bool true)∧
  Below w.heap.size (w.setCell ⟨bw,k+(wrap64 ((a / 16).tdiv 64)).toNat,none⟩ (.int .u64 (bits .or .u64 x (IntKind.u64.wrap (2^(a / 16%64).toNat))))) w':=by
 have g:∀{A:Addr} {v:Value},w.cell? A=some v→(w.alloc (.cells #[.int .u32 a,.int .u32 16] 51)).cell? A=some v:=fun {A v} h=>cell_kept h (World.grownBy_alloc w _ none) (fun r e=>by cases e)
 have gf:(w.alloc (.cells #[.int .u32 a,.int .u32 16] 51)).frozen? ⟨bw,k+(wrap64 ((a / 16).tdiv 64)).toNat,none⟩=false:=(frozen_kept hx (World.grownBy_alloc w _ none) (fun r e=>by cases e)).trans hf
 have hc:=BL bp kp bm km bw k l c n a x _ (g hp) (g hn) (g hw) ha ha2 ha3 hn2 hle h2 (g hx) gf hb
 have hbl:Below w.heap.size w (w.alloc (.cells #[.int .u32 a,.int .u32 16] 51)):=(Below.refl _ w).alloc (Nat.le_refl _) _
 have hbb:=yY hbl ⟨bw,k+(wrap64 ((a / 16).tdiv 64)).toNat,none⟩ (.int .u64 (bits .or .u64 x (IntKind.u64.wrap (2^(a / 16%64).toNat))))
 have hle2:=hbl.size
 go_enter Tryz.func18,Tryz.ntmps18
 go_wp2_with (go_at_call 40;refine hc.mono ?_;rintro e w4 ⟨rfl,h4⟩)
 go_ret
 exact⟨rfl,hbb.trans (h4.mono hle2)⟩
end Go.Proofs.Dj
namespace Go.cO.YtnbdedokjfpckaaGreatDoor
open Go.cO Go.Proofs Go.RowKit
def UH:List AV→St→Option (AV×St)
 | [p,r],σ=>oL [p,r,.b true] σ
 | _,_=>none
theorem aad {G:Nat} {μ:Mu} {σ:St} {w:World} {args:List AV} {r:AV} {σ':St} {aW:Array Value} (h:UH args σ=some (r,σ'))(hs:fH G μ σ w)(hr:aQ μ w args aW.toList):Does Tryz.prog 18 aW w (After G μ σ w r σ'):=by
 unfold UH at h
 split at h
 ·rename_i p r0
  obtain⟨v0,v1,rfl,r1,r2⟩:=vC hr
  simp only [oL,Option.bind_eq_some_iff,Option.map_eq_some_iff] at h
  obtain⟨m,h1,n0,h2,l0,h3,q,h4,x0,h5,z,h6,σ1,h7,h8⟩:=h
  cases h8
  obtain⟨o,g,k,rfl⟩:=Dk h1
  obtain⟨o1,g1,k1,rfl⟩:=Dk h2
  unfold Jz at h4
  split at h4
  ·rename_i a n o2 g2 k2 l hbt
   split at h4
   ·rename_i hc
    cases h4
    unfold vF at h6
    split at h6
    ·rename_i x
     split at h6
     ·cases h6
     ·rename_i hno
      cases h6
      simp only [chIs,decide_eq_true_eq] at hc
      obtain⟨c1,c2,c3,c4,c5,c6,c7⟩:=hc
      obtain⟨bp,dp,m1,rfl⟩:=r1
      obtain⟨aa,rfl,va,vs,e1,rfl,vb,vs2,e2,rfl,e3⟩:=r2
      simp only [aQ] at e3
      subst e3;subst e2
      obtain rfl:aa= #[.int .u32 a,.int .u32 16]:=Array.ext' e1
      obtain⟨u1,p1,bm,dm,m2,rfl⟩:=jo hs (T:=yW) rfl h1 m1
      obtain⟨u2,p2,rfl⟩:=jo hs (T:=yW) rfl h2 m2
      obtain⟨u3,p3,bw,dw,off',c,e,ms,m3,rfl,s1,s2,s3,s4⟩:=jo hs (T:=yW) rfl h3 m2
      obtain rfl:off'= dw+k2:=by omega
      obtain⟨u4,p4,rfl⟩:=jo hs (T:=yW) rfl h5 m3
      obtain⟨hf,hst⟩:=yZ hs (T:=yW) rfl h7 m3
      have hA:dw+(k2+OU a)=dw+k2+(wrap64 ((a / 16).tdiv 64)).toNat:=by unfold OU;omega
      simp only [hA] at p4 hf hst
      have hlt:w.heap.size=(w.setCell ⟨bw,dw+k2+(wrap64 ((a / 16).tdiv 64)).toNat,none⟩ (.int .u64 (BM x a))).heap.size:=by simp [World.setCell]
      refine Does.pW (kY Tryz.func18 (by kernel_rfl) (by kernel_rfl)) ((Go.Proofs.Dj.add_to bp (dp+k) bm (dm+k1) bw (dw+k2) l c n a x w p1 p2 p3 c1 c2 c3 c4 c5 ⟨c6,c7⟩ p4 hf (by simpa [LD] using hno)).mono ?_)
      rintro e w' ⟨rfl,hb⟩
      rw [hlt] at hb
      exact⟨_,μ,rfl,rfl,hst.trans (Step.of_below hst.nI hb)⟩
    ·cases h6
   ·cases h4
  ·cases h4
 ·cases h
end Go.cO.YtnbdedokjfpckaaGreatDoor
namespace Go.cO.YtnbdedokjfpckaaGreatDoor
open Go.Proofs
set_option maxRecDepth 1000000
def o_:List AV:=I4 0 0 0 0 ++ [.b false]
def cap1:List AV:=I4 1024 1024 1280 27 ++ [.b true]
def UJ:List AV:=o_ ++ cap1 ++ o_ ++ o_ ++ o_ ++ o_ ++ o_ ++ o_ ++ o_ ++ o_ ++ o_ ++ o_ ++ o_ ++ o_ ++ o_ ++ o_ ++ (I4 0 0 256 5 ++ [.b true]) ++ [.p 31 0 0,.i .i64 0,.i .i64 0,.i .u64 0]
def aae:St:=[dead,dead,dead,dead,dead,dead,dead,dead,dead,dead,dead,dead,dead,dead,dead,dead,dead,dead,dead,dead,dead,⟨0,false,.cells 131 [.sl0]⟩,⟨0,false,.cells 77 UJ⟩]
noncomputable def begK:FV→GS→Bool:=fun v s=>bC (AV.eqv v.av (.tu [.p 13 0 0,.p 32 0 0])) (bC (Nat.beq s.n (nat_lit 33)) (bC (UE s (nat_lit 31) 131 [.sl0]) (UE s (nat_lit 32) 77 UJ) false) false) false
theorem aaf:(GS.lay G0 GS.nil fun s=>rnN TT 1000 7 [.s 0 0] s begK)=true:=by kernel_rfl
def pBeg:List AV→St→Option (AV×St)
 | [.s []],σ=>if oW σ G0=true then some (.tu [.p 13 0 0,.p 32 0 0],G0 ++ aae) else none
 | _,_=>none
theorem aag {args:List AV} {σ σ':St} {r:AV} (h:pBeg args σ=some (r,σ')) {μ:Mu} {w:World} {aW:Array Value} (hs:fH 10 μ σ w)(hr:aQ μ w args aW.toList) :
 Does Tryz.prog 7 aW w (After 10 μ σ w r σ'):=by
 unfold pBeg at h
 split at h
 ·split at h
  ·rename_i he
   cases h
   obtain rfl:=lu _ _ he
   obtain⟨s,h1,h2⟩:=GS.zG G0 GS.Io aaf
   obtain⟨n,v,σ1,s',q1,q2,q3⟩:=IV TT_ok 1000 7 [.s 0 0] s G0 begK (by simpa using h2) h1
   obtain⟨k1,q4⟩:=aF q3
   obtain⟨k2,q5⟩:=aF q4
   obtain⟨k3,k4⟩:=aF q5
   have e1:=AV.kG _ _ k1
   have e2:=Nat.eq_of_beq_eq_true k2
   have e3:=Gw q2 k3
   have e4:=Gw q2 k4
   refine(b_ok y9 n _ _ _ _ _ q1 μ w aW hs hr).mono fun e w' ha=>?_
   obtain⟨u,xG,rfl,hu,hst⟩:=ha
   rw [e1] at hu
   have hl:10+aae.length=σ1.length:=by rw [q2.1,e2];rfl
   refine⟨u,muZ xG,rfl,aJ.g0 _ _ rfl hu,Step.kill Pn (fun o a ho=>?_) hs hst hl (fun i a hi hlv=>?_) (fun _ _ _=>Nat.zero_le _)⟩
   ·have hall:(G0.all fun a=>Nat.beq a.g 0)=true:=by rfl
    exact Nat.eq_of_beq_eq_true (List.all_eq_true.1 hall a (List.mem_of_getElem? ho))
   ·have hcase:i=21∧a=⟨0,false,.cells 131 [.sl0]⟩∨i=22∧a=⟨0,false,.cells 77 UJ⟩:=by
     have hlt:i<23:=(List.getElem?_eq_some_iff.1 hi).1
     have hd:∀(j:Nat),j<21→(aae[j]? :Option AO)=some dead:=by
            intro j hj
            have:((List.range 21).all fun j=>match (aae[j]? :Option AO) with | some ⟨0,true,.dead⟩=>true | _=>false)=true:=by rfl
            have h3:=List.all_eq_true.1 this j (List.mem_range.2 hj)
            split at h3
            ·rename_i hq;exact hq
            ·cases h3
     by_cases hj:i<21
     ·rw [hd i hj] at hi;cases hi;cases hlv
     ·obtain rfl | rfl:i=21∨i=22:=by omega
      ·exact .inl ⟨rfl,(Option.some.inj hi).symm⟩
      ·exact .inr ⟨rfl,(Option.some.inj hi).symm⟩
    rcases hcase with ⟨rfl,rfl⟩ | ⟨rfl,rfl⟩
    ·exact⟨e3,rfl,_,_,rfl,rfl⟩
    ·exact⟨e4,rfl,_,_,rfl,rfl⟩
  ·cases h
 ·cases h
@[reducible] noncomputable def XS:Ctx:=((XT.add 7 pBeg).add 18 UH).add 134 pDo
theorem Gy:XS.Sound 10:=
 Ctx.jS (Ctx.jS (Ctx.jS Gx _ _ (fun _ _ _ _ h _ _ _ hs hr=>aag h hs hr)) _ _ (fun _ _ _ _ h _ _ _ hs hr=>aad h hs hr)) _ _ (fun args σ r σ' h μ w aW hs hr=>
  ((pDo_to h).ev.does Gx hs hr).mono fun e w' q=>by
    obtain⟨r1,s1,⟨rfl,rfl⟩,ha⟩:=q
    exact ha)
end Go.cO.YtnbdedokjfpckaaGreatDoor
