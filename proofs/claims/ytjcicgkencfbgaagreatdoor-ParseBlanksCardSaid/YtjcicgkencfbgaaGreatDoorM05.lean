/- Texts of this claim, joined: Op. -/
import Derived.Test.YtjcicgkencfbgaaGreatDoorM03
import Derived.Test.YtjcicgkencfbgaaGreatDoorM06
import Derived.Test.YtjcicgkencfbgaaGreatDoorProg
set_option linter.unusedVariables false
set_option linter.unusedSimpArgs false
namespace Go.bG.YtjcicgkencfbgaaGreatDoor
open Go.Proofs
def cA:Code→Code
 | .seq a _=>a
 | c=>c
def cB:Code→Code
 | .seq _ b=>b
 | c=>c
def cT:Code→Code
 | .cond _ a _=>a
 | c=>c
def cOps:Code→Array Oper
 | .region _ ops _=>ops
 | _=>#[]
def aA:AC→AC
 | .seq a _=>a
 | c=>c
def aB:AC→AC
 | .seq _ b=>b.BK
 | c=>c
def aT:AC→AC
 | .cond _ a _=>a
 | c=>c
def mQ:AC→Bool
 | .skip=>true
 | .reg _=>true
 | .jM _=>true
 | .seq a b=>(mQ a) && (mQ b)
 | .cond _ a b=>(mQ a) && (mQ b)
 | .cut _ a=>(mQ a)
 | _=>false
theorem lF {X:Ctx} {run:Run} {n:Nat} :∀(a:AC) (e:Env) (σ:St) (o:Out) (e':Env) (σ':St),(mQ a)=true→bI X run n a e σ=some (o,e',σ')→o= .normal
 | .skip,e,σ,o,e',σ',_,h=>by cases h;rfl
 | .reg ops,e,σ,o,e',σ',_,h=>by
   simp only [bI,Option.map_eq_some_iff] at h
   obtain⟨r,_,h⟩:=h
   cases h;rfl
 | .jM ops,e,σ,o,e',σ',_,h=>by
   simp only [bI,Option.map_eq_some_iff] at h
   obtain⟨r,_,h⟩:=h
   cases h;rfl
 | .seq a b,e,σ,o,e',σ',hs,h=>by
   simp only [mQ,Bool.and_eq_true] at hs
   simp only [bI] at h
   split at h
   ·exact lF b _ _ _ _ _ hs.2 h
   ·exact lF a _ _ _ _ _ hs.1 h
 | .cond x a b,e,σ,o,e',σ',hs,h=>by
   simp only [mQ,Bool.and_eq_true] at hs
   simp only [bI] at h
   split at h
   ·exact lF a _ _ _ _ _ hs.1 h
   ·exact lF b _ _ _ _ _ hs.2 h
   ·cases h
 | .cut l a,e,σ,o,e',σ',hs,h=>by
   simp only [bI] at h
   exact lF a _ _ _ _ _ (by simpa [mQ] using hs) h
 | .blk _ _,_,_,_,_,_,hs,_=>by cases hs
 | .loop _ _,_,_,_,_,_,hs,_=>by cases hs
 | .exit _,_,_,_,_,_,hs,_=>by cases hs
 | .ret,_,_,_,_,_,hs,_=>by cases hs
def lG (k:Nat):AC→Bool
 | .skip=>true
 | .reg ops=>ops.all fun a=>a.d != some k
 | .seq a b=>(lG k a) && (lG k b)
 | .cond _ a b=>(lG k a) && (lG k b)
 | .cut l a=>l.contains k && (lG k a)
 | _=>false
theorem vZ {l:List Nat} {k:Nat} (h:k∈l)(e:Env):get (clear l e) k=get e k:=by
 unfold clear
 induction l with
 | nil=>cases h
 | cons d l ih=>
   simp only [List.map_cons,Go.bG.get]
   split
   ·rename_i hd;rw [hd]
   ·rename_i hd
    rcases List.mem_cons.1 h with rfl | h
    ·exact(hd rfl).elim
    ·exact ih h
theorem Gj {X:Ctx} {run:Run} {k:Nat} :∀(ops:List AI) (e:Env) (σ:St) (e':Env) (σ':St),(ops.all fun a=>a.d != some k)=true→vM X run ops e σ=some (e',σ')→get e' k=get e k
 | [],e,σ,e',σ',_,h=>by cases h;rfl
 | a :: r,e,σ,e',σ',hs,h=>by
   rw [List.all_cons,Bool.and_eq_true] at hs
   simp only [vM] at h
   split at h
   ·rw [Gj r _ _ _ _ hs.2 h,lD (by simpa using hs.1)]
   ·cases h
theorem kE {X:Ctx} {run:Run} {n k:Nat} :∀(a:AC) (e:Env) (σ:St) (o:Out) (e':Env) (σ':St),(lG k a)=true→bI X run n a e σ=some (o,e',σ')→get e' k=get e k
 | .skip,e,σ,o,e',σ',_,h=>by cases h;rfl
 | .reg ops,e,σ,o,e',σ',hs,h=>by
   simp only [bI,Option.map_eq_some_iff] at h
   obtain⟨r,h1,h⟩:=h
   cases h
   exact Gj ops e σ _ _ hs h1
 | .seq a b,e,σ,o,e',σ',hs,h=>by
   simp only [lG,Bool.and_eq_true] at hs
   simp only [bI] at h
   split at h
   ·rename_i e1 s1 h1
    rw [kE b _ _ _ _ _ hs.2 h,kE a _ _ _ _ _ hs.1 h1]
   ·exact kE a _ _ _ _ _ hs.1 h
 | .cond x a b,e,σ,o,e',σ',hs,h=>by
   simp only [lG,Bool.and_eq_true] at hs
   simp only [bI] at h
   split at h
   ·exact kE a _ _ _ _ _ hs.1 h
   ·exact kE b _ _ _ _ _ hs.2 h
   ·cases h
 | .cut l a,e,σ,o,e',σ',hs,h=>by
   simp only [lG,Bool.and_eq_true] at hs
   simp only [bI] at h
   rw [kE a _ _ _ _ _ hs.2 h,vZ (by simpa using hs.1)]
 | .jM _,_,_,_,_,_,hs,_=>by cases hs
 | .blk _ _,_,_,_,_,_,hs,_=>by cases hs
 | .loop _ _,_,_,_,_,_,hs,_=>by cases hs
 | .exit _,_,_,_,_,_,hs,_=>by cases hs
 | .ret,_,_,_,_,_,hs,_=>by cases hs
theorem uM {X:Ctx} {run:Run} {n:Nat} {a b:AC} {e:Env} {σ:St} {r:Out×Env×St} (ha:(mQ a)=true)(h:bI X run n (.seq a b) e σ=some r):∃e1 s1,bI X run n a e σ=some (.normal,e1,s1)∧bI X run n b e1 s1=some r:=by
 simp only [bI] at h
 split at h
 ·rename_i e1 s1 h1;exact⟨e1,s1,h1,h⟩
 ·rename_i hn
  obtain⟨o,e',σ'⟩:=r
  obtain rfl:=lF a _ _ _ _ _ ha h
  exact(hn _ _ h).elim
theorem Td {X:Ctx} {run:Run} {n k a b:Nat} {e e':Env} {σ σ1:St} {o:Out} (h:bI X run n (.reg [⟨none,none,.call (.c (.fn (.func k) [] [])) [.t a,.t b]⟩]) e σ=some (o,e',σ1)):∃v,run k [get e a,get e b] σ=some (v,σ1)∧o= .normal∧e'= e:=by
 simp only [bI,Option.map_eq_some_iff,vM] at h
 obtain⟨r,h,hr⟩:=h
 cases hr
 split at h
 ·rename_i v s hst
  cases h
  simp [fQ,iF,fG,dK.ev] at hst
  exact⟨v,hst,rfl,rfl⟩
 ·cases h
theorem zY {X:Ctx} {run:Run} {n k:Nat} {a b:AC} {e:Env} {σ:St} {r:Out×Env×St} (h:bI X run n (.cond (.t k) a b) e σ=some r):(get e k= .b true∧bI X run n a e σ=some r)∨(get e k= .b false∧bI X run n b e σ=some r):=by
 rw [bI] at h
 simp only [dK.ev] at h
 split at h
 ·rename_i hk;exact .inl ⟨hk,h⟩
 ·rename_i hk;exact .inr ⟨hk,h⟩
 ·cases h
theorem pX {X:Ctx} {run:Run} {n:Nat} {b:AC} {e:Env} {σ:St} {r:Out×Env×St} (h:bI X run n b e σ=some r):∃e',(e'= e∨∃l,e'= clear l e∧b= .cut l b.BK)∧bI X run n b.BK e' σ=some r:=by
 rcases AC.uK b with hb | ⟨l,hb⟩
 ·exact⟨e,.inl rfl,by rw [hb];exact h⟩
 ·refine⟨clear l e,.inr ⟨l,rfl,hb⟩,?_⟩
  rw [hb] at h
  simpa only [bI] using h
theorem o9 {G N:Nat} {μ:Mu} {w:World} {e e':Env} {tmps:Array Value} {Z:List Nat→Prop} (h:fK G N μ w e tmps)(he:e'= e∨∃l,e'= clear l e∧Z l):fK G N μ w e' tmps:=by
 rcases he with rfl | ⟨l,rfl,_⟩
 ·exact h
 ·exact h.clear l
noncomputable def opC:Code:=(Tryz.f156.body).getD .skip
noncomputable def oC0:Code:=cA opC
noncomputable def oCS:Code:=cA (cB opC)
noncomputable def oD3:Code:=cA (cA (cB (cB opC)))
noncomputable def oD4:Code:=cA (cT (cB (cA (cB (cB opC)))))
noncomputable def PY:Array Oper:=cOps (cB (cT (cB (cA (cB (cB opC))))))
noncomputable def oCR:Code:=cB (cB (cB opC))
def L8:AC→AC
 | .seq _ b=>b
 | c=>c
def vV:AC:=aA c156
def Ze:AC:=L8 c156
def vA0:AC:=aA vV
def vS:AC:=aA (aB vV)
def vD:AC:=aA (aB (aB vV))
def Zf:AC:=L8 (aB (aB vV))
def vA3:AC:=aA vD
def yB:AC:=aA (aT (aB vD))
def vA5:AC:=aB (aT (aB vD))
theorem XD:Tryz.f156.body=some (.seq oC0 (.seq oCS (.seq (.seq oD3 (.cond (.tmp 19) (.seq oD4 (.region 5 PY false)) .skip)) oCR))):=by kernel_rfl
theorem op_nt:Tryz.f156.ntmps=60:=by kernel_rfl
theorem Tf:sO Tryz.f156.results.toList []=true:=by kernel_rfl
theorem Rx:Cb Tryz.prog 11 60 oC0 vA0=true:=by kernel_rfl
theorem WE:Cb Tryz.prog 11 60 oCS vS=true:=by kernel_rfl
theorem WT:Cb Tryz.prog 11 60 oD3 vA3=true:=by kernel_rfl
theorem aao:Cb Tryz.prog 11 60 oD4 yB=true:=by kernel_rfl
theorem aap:Cb Tryz.prog 11 60 oCR Zf.BK=true:=by kernel_rfl
def vi23:AI:=⟨some 23,none,.mv (.t 0)⟩
def vi24:AI:=⟨some 24,none,.jh 76 1 [(0,.c (.s [41]))]⟩
theorem op_v5:vA5= .reg [vi23,vi24]:=by rfl
theorem Ti:PY.size=3:=by kernel_rfl
noncomputable def o50:Oper:=(PY[0]?).getD default
noncomputable def o51:Oper:=(PY[1]?).getD default
noncomputable def o52:Oper:=(PY[2]?).getD default
theorem op_o50:PY[0]? =some o50:=by kernel_rfl
theorem op_o51:PY[1]? =some o51:=by kernel_rfl
theorem op_o52:PY[2]? =some o52:=by kernel_rfl
theorem XE:wL Tryz.prog 11 60 PY o50 vi23=true:=by kernel_rfl
theorem XF:wL Tryz.prog 11 60 PY o51 vi24=true:=by kernel_rfl
def tsOf:Op→Array TypeId
 | .defer ⟨_,_,ts⟩=>ts
 | _=>#[]
theorem op_52:o52.guard=none∧o52.dst=none∧∃ts,o52.op= .defer ⟨.value (.func 90),#[.tmp 23,.tmp 24],ts⟩:=⟨by kernel_rfl,by kernel_rfl,tsOf o52.op,by kernel_rfl⟩
theorem op_vD:vD= .seq vA3 (L8 vD)∧(L8 vD).BK= .cond (.t 19) (.seq yB (L8 (aT (aB vD)))) .skip∧(L8 (aT (aB vD))).BK=vA5:=⟨by rfl,by rfl,by rfl⟩
theorem op_vV:c156= .seq vV Ze∧vV= .seq vA0 (L8 vV)∧(L8 vV).BK= .seq vS (L8 (aB vV))∧(L8 (aB vV)).BK= .seq vD Zf∧Ze.BK= .cond (.t 19) (.reg [⟨none,none,.call (.c (.fn (.func 90) [] [])) [.t 23,.t 24]⟩]) .skip:=⟨by rfl,by rfl,by rfl,by rfl,by rfl⟩
theorem op_str:(mQ vV)=true∧(mQ vA0)=true∧(mQ vS)=true∧(mQ vD)=true∧(mQ vA3)=true∧(mQ yB)=true∧(mQ Zf)=true:=by decide
theorem XG:∀k∈[19,23,24],(lG k Zf)=true∧(Ze=Ze.BK∨∃l,Ze= .cut l Ze.BK∧k∈l):=by
 intro k hk
 have h0:([19,23,24].all fun k=>(lG k Zf) && (match Ze with | .cut l _=>l.contains k | _=>true))=true:=by decide
 rw [List.all_eq_true] at h0
 have h1:=h0 k hk
 rw [Bool.and_eq_true] at h1
 refine⟨h1.1,?_⟩
 rcases AC.uK Ze with hb | ⟨l,hb⟩
 ·exact .inl hb.symm
 ·refine .inr ⟨l,hb,?_⟩
  have h2:=h1.2
  rw [hb] at h2
  simpa using h2
theorem Tj:lG 19 yB=true∧(L8 (aT (aB vD))=(L8 (aT (aB vD))).BK∨∃l,L8 (aT (aB vD))= .cut l (L8 (aT (aB vD))).BK∧19∈l):=by
 have h0:(lG 19 yB && (match L8 (aT (aB vD)) with | .cut l _=>l.contains 19 | _=>true))=true:=by decide
 rw [Bool.and_eq_true] at h0
 refine⟨h0.1,?_⟩
 rcases AC.uK (L8 (aT (aB vD))) with hb | ⟨l,hb⟩
 ·exact .inl hb.symm
 ·refine .inr ⟨l,hb,?_⟩
  have h2:=h0.2
  rw [hb] at h2
  simpa using h2
theorem key3 {e e':Env} {k:Nat} {b:AC} (he:e'= e∨∃l,e'= clear l e∧b= .cut l b.BK)(hk:b=b.BK∨∃l,b= .cut l b.BK∧k∈l):get e' k=get e k:=by
 rcases he with rfl | ⟨l,rfl,hl⟩
 ·rfl
 ·rcases hk with hk | ⟨l2,h2,hm⟩
  ·exfalso
   rw [←hk] at hl
   have:=congrArg (fun x:AC=>SizeOf.sizeOf x) hl
   simp at this
  ·have e3:AC.cut l b.BK= .cut l2 b.BK:=hl.symm.trans h2
   injection e3 with e3 _
   rw [e3]
   exact vZ hm e
set_option maxHeartbeats 2000000 in
theorem XH:MP Tryz.prog fns (fun f=>Nat.beq f 90) 11 156 F156:=by
 intro X hP hF hD hX hdr run n hrun hrd args σ o e σ1 v hlen hcode ho hv μ w aV hs hr
 obtain⟨P,fns',iQ,meth,dk⟩:=X
 simp only at hP hF hD
 subst hP hF hD
 have hen:Enters Tryz.prog 156:=g_ Tryz.func156 (by kernel_rfl) (by kernel_rfl)
 refine⟨hen,calls_of_wp_defers Tryz.func156 XD ?_⟩
 obtain⟨q0,qS,q3,q4,qR,r0⟩:=And.intro Rx (And.intro WE (And.intro WT (And.intro aao (And.intro aap trivial))))
 obtain⟨vv1,vv2,vv3,vv4,vv5⟩:=op_vV
 obtain⟨vd1,vd2,vd3⟩:=op_vD
 obtain⟨s1,s2,s3,s4,s5,s6,s7⟩:=op_str
 have Tm:bI ⟨Tryz.prog,fns,iQ,meth,fun f=>Nat.beq f 90⟩ run n c156 (ig 0 args) σ=some (o,e,σ1):=hcode
 rw [vv1] at Tm
 obtain⟨eV,sV,hV,Ia⟩:=uM s1 Tm
 rw [vv2] at hV
 obtain⟨e0,s0,h0,hb⟩:=uM s2 hV
 obtain⟨e0',he0',hb⟩:=pX hb
 rw [vv3] at hb
 obtain⟨eS,sS,hS,hb⟩:=uM s3 hb
 obtain⟨eS',heS',hb⟩:=pX hb
 rw [vv4] at hb
 obtain⟨eD,sD,hDd,hRr⟩:=uM s4 hb
 obtain⟨eR,heR,hR⟩:=pX hRr
 rw [vd1] at hDd
 obtain⟨e3,s3',h3,hcnd⟩:=uM s5 hDd
 obtain⟨e3',he3',hcnd⟩:=pX hcnd
 rw [vd2] at hcnd
 obtain⟨eF,heF,Ia⟩:=pX Ia
 rw [vv5] at Ia
 have hkeep:∀k∈[19,23,24],get eF k=get eD k:=fun k hk=>by
  obtain⟨k1,k2⟩:=XG k hk
  rw [key3 heF k2,kE Zf eD sD _ _ _ k1 hRr]
 have hsz:aV.size=args.length:=by have:=hr.length;simpa using this
 rw [op_nt]
 have hen0:=Bl (G:=11) hr hlen
 refine wp_seq (gG hX hrun hdr oC0 vA0 q0 [] _ { tmps:=aV ++ Array.replicate (60 - aV.size) undef,defers:=[] } μ σ w .normal e0 s0 _ hs hen0 rfl h0 fun a1 w1 hl1=>?_)
 obtain⟨qG,st1,en1,d1⟩:=hl1
 refine wp_seq (gG hX hrun hdr oCS vS qS [] _ a1 qG s0 w1 .normal eS sS _ st1.uF (o9 en1 he0') d1 hS fun a2 w2 hl2=>?_)
 obtain⟨zK,st2,en2,d2⟩:=hl2
 refine wp_seq (wp_seq (gG hX hrun hdr oD3 vA3 q3 [] _ a2 zK sS w2 .normal e3 s3' _ st2.uF (o9 en2 heS') d2 h3 fun a3 w3 hl3=>?_))
 obtain⟨μ3,st3,en3,d3⟩:=hl3
 have en3':=o9 en3 he3'
 have hx:=en3'.rel 19
 rcases zY hcnd with ⟨h19,hcnd⟩ | ⟨h19,hcnd⟩
 ·rw [h19] at hx
  refine wp_cond_true hx ?_
  obtain⟨e4,s4',h4,hb⟩:=uM s6 hcnd
  obtain⟨e4',he4',hb5⟩:=pX hb
  rw [vd3,op_v5] at hb5
  refine wp_seq (gG hX hrun hdr oD4 yB q4 [] _ a3 μ3 s3' w3 .normal e4 s4' _ st3.uF en3' d3 h4 fun a4 w4 hl4=>?_)
  obtain⟨μ4,st4,en4,d4⟩:=hl4
  have en4':=o9 en4 he4'
  simp only [bI,Option.map_eq_some_iff,vM] at hb5
  obtain⟨⟨eX,sX⟩,hb6,hbe⟩:=hb5
  cases hbe
  split at hb6
  ·rename_i v23 s5' hst23
   split at hb6
   ·rename_i v24 s6' hst24
    cases hb6
    refine wp_region ?_
    rw [Ti,show List.range 3=[0,1,2] from rfl,wpOps]
    simp only [op_o50]
    refine yx (ops:=PY) hX hrun st4.uF en4' XE hst23 fun u5 w5 μ5 hv5 st5=>?_
    have hd50:o50.dst=some 23:=by kernel_rfl
    have hd51:o51.dst=some 24:=by kernel_rfl
    have en5:=(en4'.mono st5.ext st5.wI).put (d:=some 23) (by decide) hv5
    rw [wpOps]
    simp only [op_o51]
    rw [hd50]
    refine yx (ops:=PY) hX hrun st5.uF en5 XF hst24 fun u6 w6 μ6 hv6 st6=>?_
    have en6:=(en5.mono st6.ext st6.wI).put (d:=some 24) (by decide) hv6
    rw [hd51,wpOps]
    simp only [op_o52]
    obtain⟨g52,d52,ts,p52⟩:=op_52
    have hw52:Region.wanted o52 (yielded PY (((a4.put (some 23) u5).put (some 24) u6)).tmps)=true:=by simp [Region.wanted,g52]
    rw [if_pos hw52]
    refine .inl ?_
    have hargs6: #[Operand.tmp 23,Operand.tmp 24].map (((a4.put (some 23) u5).put (some 24) u6)).eval= #[(((a4.put (some 23) u5).put (some 24) u6)).tmps.getD 23 undef,(((a4.put (some 23) u5).put (some 24) u6)).tmps.getD 24 undef]:=by simp [Act.eval]
    unfold Oper.wp
    have hex:(execOp ((a4.put (some 23) u5).put (some 24) u6).eval o52).run Tryz.prog w6= .ok (.defer ⟨.fn (.func 90) #[],#[(((a4.put (some 23) u5).put (some 24) u6)).tmps.getD 23 undef,(((a4.put (some 23) u5).put (some 24) u6)).tmps.getD 24 undef]⟩) w6:=by
     simp only [execOp,p52,resolve,hargs6]
     rfl
    rw [hex,Oper.upon_defer,wpOps,d52]
    have hk19:get eF 19= .b true:=by
     obtain⟨k1,k2⟩:=Tj
     rw [hkeep 19 (by simp),lD (by decide),lD (by decide),key3 he4' k2,kE yB _ _ _ _ _ k1 h4,h19]
    have r23:=en6.rel 23
    have r24:=en6.rel 24
    have hk23:get eF 23=get (put (some 24) v24 (put (some 23) v23 e4')) 23:=hkeep 23 (by simp)
    have hk24:get eF 24=get (put (some 24) v24 (put (some 23) v23 e4')) 24:=hkeep 24 (by simp)
    rw [←hk23] at r23
    rw [←hk24] at r24
    rcases zY Ia with ⟨_,Ia⟩ | ⟨Tn,_⟩
    ·obtain⟨rv,hrun7,rfl,rfl⟩:=Td Ia
     refine gG hX hrun hdr oCR Zf.BK qR [⟨.fn (.func 90) #[],#[((a4.put (some 23) u5).put (some 24) u6).tmps.getD 23 undef,((a4.put (some 23) u5).put (some 24) u6).tmps.getD 24 undef]⟩] _ _ μ6 _ w6 .normal eV sV _ st6.uF (o9 en6 heR) ?_ hR fun a7 w7 Ib=>?_
     ·show #[_].toList ++ a4.defers=_
      rw [d4];rfl
     ·obtain⟨μ7,XI,en7,d7⟩:=Ib
      show Leaves _ _ a7.tmps _ a7.defers .returning w7
      rw [d7]
      have L9:aQ μ7 w7 [get e 23,get e 24] [((a4.put (some 23) u5).put (some 24) u6).tmps.getD 23 undef,((a4.put (some 23) u5).put (some 24) u6).tmps.getD 24 undef]:=⟨_,_,rfl,aO.mono XI.ext XI.wI _ _ r23,_,_,rfl,aO.mono XI.ext XI.wI _ _ r24,rfl⟩
      obtain⟨hD1,hD2⟩:=hrd 90 rfl _ _ _ _ hrun7 μ7 w7 #[((a4.put (some 23) u5).put (some 24) u6).tmps.getD 23 undef,((a4.put (some 23) u5).put (some 24) u6).tmps.getD 24 undef] XI.uF L9
      refine leaves_cons (by simp) ?_ ((hD2 .returning).mono fun ee u' w' q=>?_)
      ·show (callFunc _ (_ ++ #[])).run _ _=_
       rw [Array.append_empty]
       exact hD1
      ·obtain⟨rfl,uu,μ8,rfl,hvu,st8⟩:=q
       have en8:=(o9 en7 heF).mono st8.ext st8.wI
       obtain⟨ur,hu1,hu2⟩:=sQ (X:=⟨Tryz.prog,fns,iQ,meth,fun f=>Nat.beq f 90⟩) (fn:=Tryz.f156) st8.uF en8 Tf hv
       exact⟨ur,hu1,ur,μ8,rfl,hu2,((((((st1.trans st2).trans st3).trans st4).trans st5).trans st6).trans XI).trans st8⟩
    ·rw [hk19] at Tn;cases Tn
   ·cases hb6
  ·cases hb6
 ·rw [h19] at hx
  refine wp_cond_false hx ?_
  cases hcnd
  refine wp_skip ?_
  refine gG hX hrun hdr oCR Zf.BK qR [] _ a3 μ3 _ w3 .normal eV sV _ st3.uF (o9 en3' heR) d3 hR fun a7 w7 Ib=>?_
  obtain⟨μ7,XI,en7,d7⟩:=Ib
  show Leaves _ _ a7.tmps _ a7.defers .returning w7
  rw [d7]
  have hk19:get eF 19= .b false:=by rw [hkeep 19 (by simp),h19]
  rcases zY Ia with ⟨Tn,_⟩ | ⟨_,Ia⟩
  ·rw [hk19] at Tn;cases Tn
  ·cases Ia
   obtain⟨ur,hu1,hu2⟩:=sQ (X:=⟨Tryz.prog,fns,iQ,meth,fun f=>Nat.beq f 90⟩) (fn:=Tryz.f156) XI.uF (o9 en7 heF) Tf hv
   exact⟨ur,hu1,ur,μ7,rfl,hu2,((st1.trans st2).trans st3).trans XI⟩
end Go.bG.YtjcicgkencfbgaaGreatDoor
