/- Texts of this claim, joined: Op. -/
import Derived.Test.YthoodopjoaigdaaGreatDoorM03
import Derived.Test.YthoodopjoaigdaaGreatDoorM06
import Derived.Test.YthoodopjoaigdaaGreatDoorProg
set_option linter.unusedVariables false
set_option linter.unusedSimpArgs false
namespace Go.bP.YthoodopjoaigdaaGreatDoor
open Go.Proofs
def cA:Code→Code
 | .seq a _=>a
 | c=>c
def cB:Code→Code
 | .seq _ b=>b
 | c=>c
def cT:Code→Code
 | .cond _ a _=>a
 | c=>c
def cOps:Code→Array Oper
 | .region _ ops _=>ops
 | _=>#[]
def aA:AC→AC
 | .seq a _=>a
 | c=>c
def aB:AC→AC
 | .seq _ b=>b.zq
 | c=>c
def aT:AC→AC
 | .cond _ a _=>a
 | c=>c
def lC:AC→Bool
 | .skip=>true
 | .reg _=>true
 | .jm _=>true
 | .seq a b=>(lC a) && (lC b)
 | .cond _ a b=>(lC a) && (lC b)
 | .cut _ a=>(lC a)
 | _=>false
theorem kC {X:Ctx} {run:Run} {n:Nat} :∀(a:AC) (e:Env) (σ:St) (o:Out) (e':Env) (σ':St),(lC a)=true→bF X run n a e σ=some (o,e',σ')→o= .normal
 | .skip,e,σ,o,e',σ',_,h=>by cases h;rfl
 | .reg ops,e,σ,o,e',σ',_,h=>by
   simp only [bF,Option.map_eq_some_iff] at h
   obtain⟨r,_,h⟩:=h
   cases h;rfl
 | .jm ops,e,σ,o,e',σ',_,h=>by
   simp only [bF,Option.map_eq_some_iff] at h
   obtain⟨r,_,h⟩:=h
   cases h;rfl
 | .seq a b,e,σ,o,e',σ',hs,h=>by
   simp only [lC,Bool.and_eq_true] at hs
   simp only [bF] at h
   split at h
   ·exact kC b _ _ _ _ _ hs.2 h
   ·exact kC a _ _ _ _ _ hs.1 h
 | .cond x a b,e,σ,o,e',σ',hs,h=>by
   simp only [lC,Bool.and_eq_true] at hs
   simp only [bF] at h
   split at h
   ·exact kC a _ _ _ _ _ hs.1 h
   ·exact kC b _ _ _ _ _ hs.2 h
   ·cases h
 | .cut l a,e,σ,o,e',σ',hs,h=>by
   simp only [bF] at h
   exact kC a _ _ _ _ _ (by simpa [lC] using hs) h
 | .blk _ _,_,_,_,_,_,hs,_=>by cases hs
 | .loop _ _,_,_,_,_,_,hs,_=>by cases hs
 | .exit _,_,_,_,_,_,hs,_=>by cases hs
 | .ret,_,_,_,_,_,hs,_=>by cases hs
def kD (k:Nat):AC→Bool
 | .skip=>true
 | .reg ops=>ops.all fun a=>a.d != some k
 | .seq a b=>(kD k a) && (kD k b)
 | .cond _ a b=>(kD k a) && (kD k b)
 | .cut l a=>l.contains k && (kD k a)
 | _=>false
theorem uf {l:List Nat} {k:Nat} (h:k∈l)(e:Env):get (clear l e) k=get e k:=by
 unfold clear
 induction l with
 | nil=>cases h
 | cons d l ih=>
   simp only [List.map_cons,Go.bP.get]
   split
   ·rename_i hd;rw [hd]
   ·rename_i hd
    rcases List.mem_cons.1 h with rfl | h
    ·exact(hd rfl).elim
    ·exact ih h
theorem D_ {X:Ctx} {run:Run} {k:Nat} :∀(ops:List AI) (e:Env) (σ:St) (e':Env) (σ':St),(ops.all fun a=>a.d != some k)=true→tq X run ops e σ=some (e',σ')→get e' k=get e k
 | [],e,σ,e',σ',_,h=>by cases h;rfl
 | a :: r,e,σ,e',σ',hs,h=>by
   rw [List.all_cons,Bool.and_eq_true] at hs
   simp only [tq] at h
   split at h
   ·rw [D_ r _ _ _ _ hs.2 h,ku (by simpa using hs.1)]
   ·cases h
theorem jF {X:Ctx} {run:Run} {n k:Nat} :∀(a:AC) (e:Env) (σ:St) (o:Out) (e':Env) (σ':St),(kD k a)=true→bF X run n a e σ=some (o,e',σ')→get e' k=get e k
 | .skip,e,σ,o,e',σ',_,h=>by cases h;rfl
 | .reg ops,e,σ,o,e',σ',hs,h=>by
   simp only [bF,Option.map_eq_some_iff] at h
   obtain⟨r,h1,h⟩:=h
   cases h
   exact D_ ops e σ _ _ hs h1
 | .seq a b,e,σ,o,e',σ',hs,h=>by
   simp only [kD,Bool.and_eq_true] at hs
   simp only [bF] at h
   split at h
   ·rename_i e1 s1 h1
    rw [jF b _ _ _ _ _ hs.2 h,jF a _ _ _ _ _ hs.1 h1]
   ·exact jF a _ _ _ _ _ hs.1 h
 | .cond x a b,e,σ,o,e',σ',hs,h=>by
   simp only [kD,Bool.and_eq_true] at hs
   simp only [bF] at h
   split at h
   ·exact jF a _ _ _ _ _ hs.1 h
   ·exact jF b _ _ _ _ _ hs.2 h
   ·cases h
 | .cut l a,e,σ,o,e',σ',hs,h=>by
   simp only [kD,Bool.and_eq_true] at hs
   simp only [bF] at h
   rw [jF a _ _ _ _ _ hs.2 h,uf (by simpa using hs.1)]
 | .jm _,_,_,_,_,_,hs,_=>by cases hs
 | .blk _ _,_,_,_,_,_,hs,_=>by cases hs
 | .loop _ _,_,_,_,_,_,hs,_=>by cases hs
 | .exit _,_,_,_,_,_,hs,_=>by cases hs
 | .ret,_,_,_,_,_,hs,_=>by cases hs
theorem rV {X:Ctx} {run:Run} {n:Nat} {a b:AC} {e:Env} {σ:St} {r:Out×Env×St} (ha:(lC a)=true)(h:bF X run n (.seq a b) e σ=some r):∃e1 s1,bF X run n a e σ=some (.normal,e1,s1)∧bF X run n b e1 s1=some r:=by
 simp only [bF] at h
 split at h
 ·rename_i e1 s1 h1;exact⟨e1,s1,h1,h⟩
 ·rename_i hn
  obtain⟨o,e',σ'⟩:=r
  obtain rfl:=kC a _ _ _ _ _ ha h
  exact(hn _ _ h).elim
theorem PI {X:Ctx} {run:Run} {n k a b:Nat} {e e':Env} {σ σ1:St} {o:Out} (h:bF X run n (.reg [⟨none,none,.call (.c (.fn (.func k) [] [])) [.t a,.t b]⟩]) e σ=some (o,e',σ1)):∃v,run k [get e a,get e b] σ=some (v,σ1)∧o= .normal∧e'= e:=by
 simp only [bF,Option.map_eq_some_iff,tq] at h
 obtain⟨r,h,hr⟩:=h
 cases hr
 split at h
 ·rename_i v s hst
  cases h
  simp [fK,g_,fE,dI.ev] at hst
  exact⟨v,hst,rfl,rfl⟩
 ·cases h
theorem xO {X:Ctx} {run:Run} {n k:Nat} {a b:AC} {e:Env} {σ:St} {r:Out×Env×St} (h:bF X run n (.cond (.t k) a b) e σ=some r):(get e k= .b true∧bF X run n a e σ=some r)∨(get e k= .b false∧bF X run n b e σ=some r):=by
 rw [bF] at h
 simp only [dI.ev] at h
 split at h
 ·rename_i hk;exact .inl ⟨hk,h⟩
 ·rename_i hk;exact .inr ⟨hk,h⟩
 ·cases h
theorem oG {X:Ctx} {run:Run} {n:Nat} {b:AC} {e:Env} {σ:St} {r:Out×Env×St} (h:bF X run n b e σ=some r):∃e',(e'= e∨∃l,e'= clear l e∧b= .cut l b.zq)∧bF X run n b.zq e' σ=some r:=by
 rcases AC.rU b with hb | ⟨l,hb⟩
 ·exact⟨e,.inl rfl,by rw [hb];exact h⟩
 ·refine⟨clear l e,.inr ⟨l,rfl,hb⟩,?_⟩
  rw [hb] at h
  simpa only [bF] using h
theorem nT {G N:Nat} {μ:Mu} {w:World} {e e':Env} {tmps:Array Value} {Z:List Nat→Prop} (h:fH G N μ w e tmps)(he:e'= e∨∃l,e'= clear l e∧Z l):fH G N μ w e' tmps:=by
 rcases he with rfl | ⟨l,rfl,_⟩
 ·exact h
 ·exact h.clear l
noncomputable def opC:Code:=(Tryz.f154.body).getD .skip
noncomputable def oC0:Code:=cA opC
noncomputable def oCS:Code:=cA (cB opC)
noncomputable def oD3:Code:=cA (cA (cB (cB opC)))
noncomputable def oD4:Code:=cA (cT (cB (cA (cB (cB opC)))))
noncomputable def MW:Array Oper:=cOps (cB (cT (cB (cA (cB (cB opC))))))
noncomputable def oCR:Code:=cB (cB (cB opC))
def Jl:AC→AC
 | .seq _ b=>b
 | c=>c
def vV:AC:=aA c154
def Wh:AC:=Jl c154
def vA0:AC:=aA vV
def vS:AC:=aA (aB vV)
def vD:AC:=aA (aB (aB vV))
def Wi:AC:=Jl (aB (aB vV))
def vA3:AC:=aA vD
def XC:AC:=aA (aT (aB vD))
def vA5:AC:=aB (aT (aB vD))
theorem Uy:Tryz.f154.body=some (.seq oC0 (.seq oCS (.seq (.seq oD3 (.cond (.tmp 19) (.seq oD4 (.region 5 MW false)) .skip)) oCR))):=by kernel_rfl
theorem aa2:Tryz.f154.ntmps=60:=by kernel_rfl
theorem PK:qI Tryz.f154.results.toList []=true:=by kernel_rfl
theorem XD:zQ Tryz.prog 11 60 oC0 vA0=true:=by kernel_rfl
theorem XE:zQ Tryz.prog 11 60 oCS vS=true:=by kernel_rfl
theorem XF:zQ Tryz.prog 11 60 oD3 vA3=true:=by kernel_rfl
theorem XG:zQ Tryz.prog 11 60 oD4 XC=true:=by kernel_rfl
theorem XH:zQ Tryz.prog 11 60 oCR Wi.zq=true:=by kernel_rfl
def aa3:AI:=⟨some 23,none,.mv (.t 0)⟩
def aa4:AI:=⟨some 24,none,.iM 77 1 [(0,.c (.s [41]))]⟩
theorem aa5:vA5= .reg [aa3,aa4]:=by rfl
theorem PN:MW.size=3:=by kernel_rfl
noncomputable def o50:Oper:=(MW[0]?).getD default
noncomputable def o51:Oper:=(MW[1]?).getD default
noncomputable def XI:Oper:=(MW[2]?).getD default
theorem XJ:MW[0]? =some o50:=by kernel_rfl
theorem XL:MW[1]? =some o51:=by kernel_rfl
theorem XM:MW[2]? =some XI:=by kernel_rfl
theorem Uz:uH Tryz.prog 11 60 MW o50 aa3=true:=by kernel_rfl
theorem UA:uH Tryz.prog 11 60 MW o51 aa4=true:=by kernel_rfl
def tsOf:Op→Array TypeId
 | .defer ⟨_,_,ts⟩=>ts
 | _=>#[]
theorem aa6:XI.guard=none∧XI.dst=none∧∃ts,XI.op= .defer ⟨.value (.func 84),#[.tmp 23,.tmp 24],ts⟩:=⟨by kernel_rfl,by kernel_rfl,tsOf XI.op,by kernel_rfl⟩
theorem aa7:vD= .seq vA3 (Jl vD)∧(Jl vD).zq= .cond (.t 19) (.seq XC (Jl (aT (aB vD)))) .skip∧(Jl (aT (aB vD))).zq=vA5:=⟨by rfl,by rfl,by rfl⟩
theorem aa8:c154= .seq vV Wh∧vV= .seq vA0 (Jl vV)∧(Jl vV).zq= .seq vS (Jl (aB vV))∧(Jl (aB vV)).zq= .seq vD Wi∧Wh.zq= .cond (.t 19) (.reg [⟨none,none,.call (.c (.fn (.func 84) [] [])) [.t 23,.t 24]⟩]) .skip:=⟨by rfl,by rfl,by rfl,by rfl,by rfl⟩
theorem XO:(lC vV)=true∧(lC vA0)=true∧(lC vS)=true∧(lC vD)=true∧(lC vA3)=true∧(lC XC)=true∧(lC Wi)=true:=by decide
theorem UC:∀k∈[19,23,24],(kD k Wi)=true∧(Wh=Wh.zq∨∃l,Wh= .cut l Wh.zq∧k∈l):=by
 intro k hk
 have h0:([19,23,24].all fun k=>(kD k Wi) && (match Wh with | .cut l _=>l.contains k | _=>true))=true:=by decide
 rw [List.all_eq_true] at h0
 have h1:=h0 k hk
 rw [Bool.and_eq_true] at h1
 refine⟨h1.1,?_⟩
 rcases AC.rU Wh with hb | ⟨l,hb⟩
 ·exact .inl hb.symm
 ·refine .inr ⟨l,hb,?_⟩
  have h2:=h1.2
  rw [hb] at h2
  simpa using h2
theorem PS:kD 19 XC=true∧(Jl (aT (aB vD))=(Jl (aT (aB vD))).zq∨∃l,Jl (aT (aB vD))= .cut l (Jl (aT (aB vD))).zq∧19∈l):=by
 have h0:(kD 19 XC && (match Jl (aT (aB vD)) with | .cut l _=>l.contains 19 | _=>true))=true:=by decide
 rw [Bool.and_eq_true] at h0
 refine⟨h0.1,?_⟩
 rcases AC.rU (Jl (aT (aB vD))) with hb | ⟨l,hb⟩
 ·exact .inl hb.symm
 ·refine .inr ⟨l,hb,?_⟩
  have h2:=h0.2
  rw [hb] at h2
  simpa using h2
theorem aa9 {e e':Env} {k:Nat} {b:AC} (he:e'= e∨∃l,e'= clear l e∧b= .cut l b.zq)(hk:b=b.zq∨∃l,b= .cut l b.zq∧k∈l):get e' k=get e k:=by
 rcases he with rfl | ⟨l,rfl,hl⟩
 ·rfl
 ·rcases hk with hk | ⟨l2,h2,hm⟩
  ·exfalso
   rw [←hk] at hl
   have:=congrArg (fun x:AC=>SizeOf.sizeOf x) hl
   simp at this
  ·have e3:AC.cut l b.zq= .cut l2 b.zq:=hl.symm.trans h2
   injection e3 with e3 _
   rw [e3]
   exact uf hm e
set_option maxHeartbeats 2000000 in
theorem UD:JE Tryz.prog fns (fun f=>Nat.beq f 84) 11 154 aah:=by
 intro X hP hF hD hX hdr run n hrun hrd args σ o e σ1 v hlen hcode ho hv μ w aU hs hr
 obtain⟨P,fns',iE,meth,dk⟩:=X
 simp only at hP hF hD
 subst hP hF hD
 have hen:Enters Tryz.prog 154:=ig Tryz.func154 (by kernel_rfl) (by kernel_rfl)
 refine⟨hen,calls_of_wp_defers Tryz.func154 Uy ?_⟩
 obtain⟨q0,qS,q3,q4,qR,r0⟩:=And.intro XD (And.intro XE (And.intro XF (And.intro XG (And.intro XH trivial))))
 obtain⟨vv1,vv2,vv3,vv4,vv5⟩:=aa8
 obtain⟨vd1,vd2,vd3⟩:=aa7
 obtain⟨s1,s2,s3,s4,s5,s6,s7⟩:=XO
 have PU:bF ⟨Tryz.prog,fns,iE,meth,fun f=>Nat.beq f 84⟩ run n c154 (gW 0 args) σ=some (o,e,σ1):=hcode
 rw [vv1] at PU
 obtain⟨eV,sV,hV,E8⟩:=rV s1 PU
 rw [vv2] at hV
 obtain⟨e0,s0,h0,hb⟩:=rV s2 hV
 obtain⟨e0',he0',hb⟩:=oG hb
 rw [vv3] at hb
 obtain⟨eS,sS,hS,hb⟩:=rV s3 hb
 obtain⟨eS',heS',hb⟩:=oG hb
 rw [vv4] at hb
 obtain⟨eD,sD,hDd,hRr⟩:=rV s4 hb
 obtain⟨eR,heR,hR⟩:=oG hRr
 rw [vd1] at hDd
 obtain⟨e3,s3',h3,hcnd⟩:=rV s5 hDd
 obtain⟨e3',he3',hcnd⟩:=oG hcnd
 rw [vd2] at hcnd
 obtain⟨eF,heF,E8⟩:=oG E8
 rw [vv5] at E8
 have hkeep:∀k∈[19,23,24],get eF k=get eD k:=fun k hk=>by
  obtain⟨k1,k2⟩:=UC k hk
  rw [aa9 heF k2,jF Wi eD sD _ _ _ k1 hRr]
 have hsz:aU.size=args.length:=by have:=hr.length;simpa using this
 rw [aa2]
 have hen0:=yR (G:=11) hr hlen
 refine wp_seq (fV hX hrun hdr oC0 vA0 q0 [] _ { tmps:=aU ++ Array.replicate (60 - aU.size) undef,defers:=[] } μ σ w .normal e0 s0 _ hs hen0 rfl h0 fun a1 w1 hl1=>?_)
 obtain⟨oZ,st1,en1,d1⟩:=hl1
 refine wp_seq (fV hX hrun hdr oCS vS qS [] _ a1 oZ s0 w1 .normal eS sS _ st1.rJ (nT en1 he0') d1 hS fun a2 w2 hl2=>?_)
 obtain⟨EK,st2,en2,d2⟩:=hl2
 refine wp_seq (wp_seq (fV hX hrun hdr oD3 vA3 q3 [] _ a2 EK sS w2 .normal e3 s3' _ st2.rJ (nT en2 heS') d2 h3 fun a3 w3 hl3=>?_))
 obtain⟨μ3,st3,en3,d3⟩:=hl3
 have XP:=nT en3 he3'
 have hx:=XP.rel 19
 rcases xO hcnd with ⟨h19,hcnd⟩ | ⟨h19,hcnd⟩
 ·rw [h19] at hx
  refine wp_cond_true hx ?_
  obtain⟨e4,s4',h4,hb⟩:=rV s6 hcnd
  obtain⟨e4',aa_,hb5⟩:=oG hb
  rw [vd3,aa5] at hb5
  refine wp_seq (fV hX hrun hdr oD4 XC q4 [] _ a3 μ3 s3' w3 .normal e4 s4' _ st3.rJ XP d3 h4 fun a4 w4 hl4=>?_)
  obtain⟨μ4,st4,en4,d4⟩:=hl4
  have abb:=nT en4 aa_
  simp only [bF,Option.map_eq_some_iff,tq] at hb5
  obtain⟨⟨eX,sX⟩,hb6,hbe⟩:=hb5
  cases hbe
  split at hb6
  ·rename_i v23 s5' abd
   split at hb6
   ·rename_i v24 s6' abe
    cases hb6
    refine wp_region ?_
    rw [PN,show List.range 3=[0,1,2] from rfl,wpOps]
    simp only [XJ]
    refine vY (ops:=MW) hX hrun st4.rJ abb Uz abd fun u5 w5 μ5 hv5 st5=>?_
    have hd50:o50.dst=some 23:=by kernel_rfl
    have hd51:o51.dst=some 24:=by kernel_rfl
    have en5:=(abb.mono st5.ext st5.uD).put (d:=some 23) (by decide) hv5
    rw [wpOps]
    simp only [XL]
    rw [hd50]
    refine vY (ops:=MW) hX hrun st5.rJ en5 UA abe fun u6 w6 μ6 hv6 st6=>?_
    have en6:=(en5.mono st6.ext st6.uD).put (d:=some 24) (by decide) hv6
    rw [hd51,wpOps]
    simp only [XM]
    obtain⟨g52,d52,ts,p52⟩:=aa6
    have hw52:Region.wanted XI (yielded MW (((a4.put (some 23) u5).put (some 24) u6)).tmps)=true:=by simp [Region.wanted,g52]
    rw [if_pos hw52]
    refine .inl ?_
    have XQ: #[Operand.tmp 23,Operand.tmp 24].map (((a4.put (some 23) u5).put (some 24) u6)).eval= #[(((a4.put (some 23) u5).put (some 24) u6)).tmps.getD 23 undef,(((a4.put (some 23) u5).put (some 24) u6)).tmps.getD 24 undef]:=by simp [Act.eval]
    unfold Oper.wp
    have hex:(execOp ((a4.put (some 23) u5).put (some 24) u6).eval XI).run Tryz.prog w6= .ok (.defer ⟨.fn (.func 84) #[],#[(((a4.put (some 23) u5).put (some 24) u6)).tmps.getD 23 undef,(((a4.put (some 23) u5).put (some 24) u6)).tmps.getD 24 undef]⟩) w6:=by
     simp only [execOp,p52,resolve,XQ]
     rfl
    rw [hex,Oper.upon_defer,wpOps,d52]
    have XR:get eF 19= .b true:=by
     obtain⟨k1,k2⟩:=PS
     rw [hkeep 19 (by simp),ku (by decide),ku (by decide),aa9 aa_ k2,jF XC _ _ _ _ _ k1 h4,h19]
    have r23:=en6.rel 23
    have r24:=en6.rel 24
    have hk23:get eF 23=get (put (some 24) v24 (put (some 23) v23 e4')) 23:=hkeep 23 (by simp)
    have hk24:get eF 24=get (put (some 24) v24 (put (some 23) v23 e4')) 24:=hkeep 24 (by simp)
    rw [←hk23] at r23
    rw [←hk24] at r24
    rcases xO E8 with ⟨_,E8⟩ | ⟨PV,_⟩
    ·obtain⟨rv,hrun7,rfl,rfl⟩:=PI E8
     refine fV hX hrun hdr oCR Wi.zq qR [⟨.fn (.func 84) #[],#[((a4.put (some 23) u5).put (some 24) u6).tmps.getD 23 undef,((a4.put (some 23) u5).put (some 24) u6).tmps.getD 24 undef]⟩] _ _ μ6 _ w6 .normal eV sV _ st6.rJ (nT en6 heR) ?_ hR fun a7 w7 E_=>?_
     ·show #[_].toList ++ a4.defers=_
      rw [d4];rfl
     ·obtain⟨μ7,UE,en7,d7⟩:=E_
      show Leaves _ _ a7.tmps _ a7.defers .returning w7
      rw [d7]
      have Jm:aP μ7 w7 [get e 23,get e 24] [((a4.put (some 23) u5).put (some 24) u6).tmps.getD 23 undef,((a4.put (some 23) u5).put (some 24) u6).tmps.getD 24 undef]:=⟨_,_,rfl,aO.mono UE.ext UE.uD _ _ r23,_,_,rfl,aO.mono UE.ext UE.uD _ _ r24,rfl⟩
      obtain⟨hD1,hD2⟩:=hrd 84 rfl _ _ _ _ hrun7 μ7 w7 #[((a4.put (some 23) u5).put (some 24) u6).tmps.getD 23 undef,((a4.put (some 23) u5).put (some 24) u6).tmps.getD 24 undef] UE.rJ Jm
      refine leaves_cons (by simp) ?_ ((hD2 .returning).mono fun ee u' w' q=>?_)
      ·show (callFunc _ (_ ++ #[])).run _ _=_
       rw [Array.append_empty]
       exact hD1
      ·obtain⟨rfl,uu,μ8,rfl,hvu,st8⟩:=q
       have en8:=(nT en7 heF).mono st8.ext st8.uD
       obtain⟨ur,hu1,hu2⟩:=qJ (X:=⟨Tryz.prog,fns,iE,meth,fun f=>Nat.beq f 84⟩) (fn:=Tryz.f154) st8.rJ en8 PK hv
       exact⟨ur,hu1,ur,μ8,rfl,hu2,((((((st1.trans st2).trans st3).trans st4).trans st5).trans st6).trans UE).trans st8⟩
    ·rw [XR] at PV;cases PV
   ·cases hb6
  ·cases hb6
 ·rw [h19] at hx
  refine wp_cond_false hx ?_
  cases hcnd
  refine wp_skip ?_
  refine fV hX hrun hdr oCR Wi.zq qR [] _ a3 μ3 _ w3 .normal eV sV _ st3.rJ (nT XP heR) d3 hR fun a7 w7 E_=>?_
  obtain⟨μ7,UE,en7,d7⟩:=E_
  show Leaves _ _ a7.tmps _ a7.defers .returning w7
  rw [d7]
  have XR:get eF 19= .b false:=by rw [hkeep 19 (by simp),h19]
  rcases xO E8 with ⟨PV,_⟩ | ⟨_,E8⟩
  ·rw [XR] at PV;cases PV
  ·cases E8
   obtain⟨ur,hu1,hu2⟩:=qJ (X:=⟨Tryz.prog,fns,iE,meth,fun f=>Nat.beq f 84⟩) (fn:=Tryz.f154) UE.rJ (nT en7 heF) PK hv
   exact⟨ur,hu1,ur,μ7,rfl,hu2,((st1.trans st2).trans st3).trans UE⟩
end Go.bP.YthoodopjoaigdaaGreatDoor
