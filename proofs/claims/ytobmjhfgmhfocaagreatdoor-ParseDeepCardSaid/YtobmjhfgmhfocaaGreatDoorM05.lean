/- Texts of this claim, joined: Op. -/
import Derived.Test.YtobmjhfgmhfocaaGreatDoorM03
import Derived.Test.YtobmjhfgmhfocaaGreatDoorM06
import Derived.Test.YtobmjhfgmhfocaaGreatDoorProg
set_option linter.unusedVariables false
set_option linter.unusedSimpArgs false
namespace Go.bK.YtobmjhfgmhfocaaGreatDoor
open Go.Proofs
def cA:Code→Code
 | .seq a _=>a
 | c=>c
def cB:Code→Code
 | .seq _ b=>b
 | c=>c
def cT:Code→Code
 | .cond _ a _=>a
 | c=>c
def cOps:Code→Array Oper
 | .region _ ops _=>ops
 | _=>#[]
def aA:AC→AC
 | .seq a _=>a
 | c=>c
def aB:AC→AC
 | .seq _ b=>b.AP
 | c=>c
def aT:AC→AC
 | .cond _ a _=>a
 | c=>c
def kL:AC→Bool
 | .skip=>true
 | .reg _=>true
 | .kU _=>true
 | .seq a b=>(kL a) && (kL b)
 | .cond _ a b=>(kL a) && (kL b)
 | .cut _ a=>(kL a)
 | _=>false
theorem kX {X:Ctx} {run:Run} {n:Nat} :∀(a:AC) (e:Env) (σ:St) (o:Out) (e':Env) (σ':St),(kL a)=true→aX X run n a e σ=some (o,e',σ')→o= .normal
 | .skip,e,σ,o,e',σ',_,h=>by cases h;rfl
 | .reg ops,e,σ,o,e',σ',_,h=>by
   simp only [aX,Option.map_eq_some_iff] at h
   obtain⟨r,_,h⟩:=h
   cases h;rfl
 | .kU ops,e,σ,o,e',σ',_,h=>by
   simp only [aX,Option.map_eq_some_iff] at h
   obtain⟨r,_,h⟩:=h
   cases h;rfl
 | .seq a b,e,σ,o,e',σ',hs,h=>by
   simp only [kL,Bool.and_eq_true] at hs
   simp only [aX] at h
   split at h
   ·exact kX b _ _ _ _ _ hs.2 h
   ·exact kX a _ _ _ _ _ hs.1 h
 | .cond x a b,e,σ,o,e',σ',hs,h=>by
   simp only [kL,Bool.and_eq_true] at hs
   simp only [aX] at h
   split at h
   ·exact kX a _ _ _ _ _ hs.1 h
   ·exact kX b _ _ _ _ _ hs.2 h
   ·cases h
 | .cut l a,e,σ,o,e',σ',hs,h=>by
   simp only [aX] at h
   exact kX a _ _ _ _ _ (by simpa [kL] using hs) h
 | .blk _ _,_,_,_,_,_,hs,_=>by cases hs
 | .loop _ _,_,_,_,_,_,hs,_=>by cases hs
 | .exit _,_,_,_,_,_,hs,_=>by cases hs
 | .ret,_,_,_,_,_,hs,_=>by cases hs
def kY (k:Nat):AC→Bool
 | .skip=>true
 | .reg ops=>ops.all fun a=>a.d != some k
 | .seq a b=>(kY k a) && (kY k b)
 | .cond _ a b=>(kY k a) && (kY k b)
 | .cut l a=>l.contains k && (kY k a)
 | _=>false
theorem uQ {l:List Nat} {k:Nat} (h:k∈l)(e:Env):get (clear l e) k=get e k:=by
 unfold clear
 induction l with
 | nil=>cases h
 | cons d l ih=>
   simp only [List.map_cons,Go.bK.get]
   split
   ·rename_i hd;rw [hd]
   ·rename_i hd
    rcases List.mem_cons.1 h with rfl | h
    ·exact(hd rfl).elim
    ·exact ih h
theorem FT {X:Ctx} {run:Run} {k:Nat} :∀(ops:List AI) (e:Env) (σ:St) (e':Env) (σ':St),(ops.all fun a=>a.d != some k)=true→qM X run ops e σ=some (e',σ')→get e' k=get e k
 | [],e,σ,e',σ',_,h=>by cases h;rfl
 | a :: r,e,σ,e',σ',hs,h=>by
   rw [List.all_cons,Bool.and_eq_true] at hs
   simp only [qM] at h
   split at h
   ·rw [FT r _ _ _ _ hs.2 h,kW (by simpa using hs.1)]
   ·cases h
theorem jQ {X:Ctx} {run:Run} {n k:Nat} :∀(a:AC) (e:Env) (σ:St) (o:Out) (e':Env) (σ':St),(kY k a)=true→aX X run n a e σ=some (o,e',σ')→get e' k=get e k
 | .skip,e,σ,o,e',σ',_,h=>by cases h;rfl
 | .reg ops,e,σ,o,e',σ',hs,h=>by
   simp only [aX,Option.map_eq_some_iff] at h
   obtain⟨r,h1,h⟩:=h
   cases h
   exact FT ops e σ _ _ hs h1
 | .seq a b,e,σ,o,e',σ',hs,h=>by
   simp only [kY,Bool.and_eq_true] at hs
   simp only [aX] at h
   split at h
   ·rename_i e1 s1 h1
    rw [jQ b _ _ _ _ _ hs.2 h,jQ a _ _ _ _ _ hs.1 h1]
   ·exact jQ a _ _ _ _ _ hs.1 h
 | .cond x a b,e,σ,o,e',σ',hs,h=>by
   simp only [kY,Bool.and_eq_true] at hs
   simp only [aX] at h
   split at h
   ·exact jQ a _ _ _ _ _ hs.1 h
   ·exact jQ b _ _ _ _ _ hs.2 h
   ·cases h
 | .cut l a,e,σ,o,e',σ',hs,h=>by
   simp only [kY,Bool.and_eq_true] at hs
   simp only [aX] at h
   rw [jQ a _ _ _ _ _ hs.2 h,uQ (by simpa using hs.1)]
 | .kU _,_,_,_,_,_,hs,_=>by cases hs
 | .blk _ _,_,_,_,_,_,hs,_=>by cases hs
 | .loop _ _,_,_,_,_,_,hs,_=>by cases hs
 | .exit _,_,_,_,_,_,hs,_=>by cases hs
 | .ret,_,_,_,_,_,hs,_=>by cases hs
theorem tZ {X:Ctx} {run:Run} {n:Nat} {a b:AC} {e:Env} {σ:St} {r:Out×Env×St} (ha:(kL a)=true)(h:aX X run n (.seq a b) e σ=some r):∃e1 s1,aX X run n a e σ=some (.normal,e1,s1)∧aX X run n b e1 s1=some r:=by
 simp only [aX] at h
 split at h
 ·rename_i e1 s1 h1;exact⟨e1,s1,h1,h⟩
 ·rename_i hn
  obtain⟨o,e',σ'⟩:=r
  obtain rfl:=kX a _ _ _ _ _ ha h
  exact(hn _ _ h).elim
theorem TT {X:Ctx} {run:Run} {n k a b:Nat} {e e':Env} {σ σ1:St} {o:Out} (h:aX X run n (.reg [⟨none,none,.call (.c (.fn (.func k) [] [])) [.t a,.t b]⟩]) e σ=some (o,e',σ1)):∃v,run k [get e a,get e b] σ=some (v,σ1)∧o= .normal∧e'= e:=by
 simp only [aX,Option.map_eq_some_iff,qM] at h
 obtain⟨r,h,hr⟩:=h
 cases hr
 split at h
 ·rename_i v s hst
  cases h
  simp [dL,dn,dU,bH.ev] at hst
  exact⟨v,hst,rfl,rfl⟩
 ·cases h
theorem yT {X:Ctx} {run:Run} {n k:Nat} {a b:AC} {e:Env} {σ:St} {r:Out×Env×St} (h:aX X run n (.cond (.t k) a b) e σ=some r):(get e k= .b true∧aX X run n a e σ=some r)∨(get e k= .b false∧aX X run n b e σ=some r):=by
 rw [aX] at h
 simp only [bH.ev] at h
 split at h
 ·rename_i hk;exact .inl ⟨hk,h⟩
 ·rename_i hk;exact .inr ⟨hk,h⟩
 ·cases h
theorem pq {X:Ctx} {run:Run} {n:Nat} {b:AC} {e:Env} {σ:St} {r:Out×Env×St} (h:aX X run n b e σ=some r):∃e',(e'= e∨∃l,e'= clear l e∧b= .cut l b.AP)∧aX X run n b.AP e' σ=some r:=by
 rcases AC.tY b with hb | ⟨l,hb⟩
 ·exact⟨e,.inl rfl,by rw [hb];exact h⟩
 ·refine⟨clear l e,.inr ⟨l,rfl,hb⟩,?_⟩
  rw [hb] at h
  simpa only [aX] using h
theorem oh {G N:Nat} {μ:Mu} {w:World} {e e':Env} {tmps:Array Value} {Z:List Nat→Prop} (h:eY G N μ w e tmps)(he:e'= e∨∃l,e'= clear l e∧Z l):eY G N μ w e' tmps:=by
 rcases he with rfl | ⟨l,rfl,_⟩
 ·exact h
 ·exact h.clear l
noncomputable def opC:Code:=(Tryz.f161.body).getD .skip
noncomputable def oC0:Code:=cA opC
noncomputable def oCS:Code:=cA (cB opC)
noncomputable def oD3:Code:=cA (cA (cB (cB opC)))
noncomputable def oD4:Code:=cA (cT (cB (cA (cB (cB opC)))))
noncomputable def Qn:Array Oper:=cOps (cB (cT (cB (cA (cB (cB opC))))))
noncomputable def oCR:Code:=cB (cB (cB opC))
def LP:AC→AC
 | .seq _ b=>b
 | c=>c
def vV:AC:=aA TI
def vFr:AC:=LP TI
def vA0:AC:=aA vV
def vS:AC:=aA (aB vV)
def vD:AC:=aA (aB (aB vV))
def vRr:AC:=LP (aB (aB vV))
def vA3:AC:=aA vD
def vA4:AC:=aA (aT (aB vD))
def vA5:AC:=aB (aT (aB vD))
theorem Yl:Tryz.f161.body=some (.seq oC0 (.seq oCS (.seq (.seq oD3 (.cond (.tmp 19) (.seq oD4 (.region 5 Qn false)) .skip)) oCR))):=by kernel_rfl
theorem op_nt:Tryz.f161.ntmps=60:=by kernel_rfl
theorem TU:rH Tryz.f161.results.toList []=true:=by kernel_rfl
theorem op_ok0:Bo Tryz.prog 11 60 oC0 vA0=true:=by kernel_rfl
theorem op_okS:Bo Tryz.prog 11 60 oCS vS=true:=by kernel_rfl
theorem op_ok3:Bo Tryz.prog 11 60 oD3 vA3=true:=by kernel_rfl
theorem op_ok4:Bo Tryz.prog 11 60 oD4 vA4=true:=by kernel_rfl
theorem op_okR:Bo Tryz.prog 11 60 oCR vRr.AP=true:=by kernel_rfl
def vi23:AI:=⟨some 23,none,.mv (.t 0)⟩
def vi24:AI:=⟨some 24,none,.iT 63 1 [(0,.c (.s [41]))]⟩
theorem op_v5:vA5= .reg [vi23,vi24]:=by rfl
theorem TV:Qn.size=3:=by kernel_rfl
noncomputable def o50:Oper:=(Qn[0]?).getD default
noncomputable def o51:Oper:=(Qn[1]?).getD default
noncomputable def o52:Oper:=(Qn[2]?).getD default
theorem op_o50:Qn[0]? =some o50:=by kernel_rfl
theorem op_o51:Qn[1]? =some o51:=by kernel_rfl
theorem op_o52:Qn[2]? =some o52:=by kernel_rfl
theorem Ym:vJ Tryz.prog 11 60 Qn o50 vi23=true:=by kernel_rfl
theorem Yn:vJ Tryz.prog 11 60 Qn o51 vi24=true:=by kernel_rfl
def tsOf:Op→Array TypeId
 | .defer ⟨_,_,ts⟩=>ts
 | _=>#[]
theorem op_52:o52.guard=none∧o52.dst=none∧∃ts,o52.op= .defer ⟨.value (.func 64),#[.tmp 23,.tmp 24],ts⟩:=⟨by kernel_rfl,by kernel_rfl,tsOf o52.op,by kernel_rfl⟩
theorem op_vD:vD= .seq vA3 (LP vD)∧(LP vD).AP= .cond (.t 19) (.seq vA4 (LP (aT (aB vD)))) .skip∧(LP (aT (aB vD))).AP=vA5:=⟨by rfl,by rfl,by rfl⟩
theorem op_vV:TI= .seq vV vFr∧vV= .seq vA0 (LP vV)∧(LP vV).AP= .seq vS (LP (aB vV))∧(LP (aB vV)).AP= .seq vD vRr∧vFr.AP= .cond (.t 19) (.reg [⟨none,none,.call (.c (.fn (.func 64) [] [])) [.t 23,.t 24]⟩]) .skip:=⟨by rfl,by rfl,by rfl,by rfl,by rfl⟩
theorem op_str:(kL vV)=true∧(kL vA0)=true∧(kL vS)=true∧(kL vD)=true∧(kL vA3)=true∧(kL vA4)=true∧(kL vRr)=true:=by decide
theorem Yo:∀k∈[19,23,24],(kY k vRr)=true∧(vFr=vFr.AP∨∃l,vFr= .cut l vFr.AP∧k∈l):=by
 intro k hk
 have h0:([19,23,24].all fun k=>(kY k vRr) && (match vFr with | .cut l _=>l.contains k | _=>true))=true:=by decide
 rw [List.all_eq_true] at h0
 have h1:=h0 k hk
 rw [Bool.and_eq_true] at h1
 refine⟨h1.1,?_⟩
 rcases AC.tY vFr with hb | ⟨l,hb⟩
 ·exact .inl hb.symm
 ·refine .inr ⟨l,hb,?_⟩
  have h2:=h1.2
  rw [hb] at h2
  simpa using h2
theorem TY:kY 19 vA4=true∧(LP (aT (aB vD))=(LP (aT (aB vD))).AP∨∃l,LP (aT (aB vD))= .cut l (LP (aT (aB vD))).AP∧19∈l):=by
 have h0:(kY 19 vA4 && (match LP (aT (aB vD)) with | .cut l _=>l.contains 19 | _=>true))=true:=by decide
 rw [Bool.and_eq_true] at h0
 refine⟨h0.1,?_⟩
 rcases AC.tY (LP (aT (aB vD))) with hb | ⟨l,hb⟩
 ·exact .inl hb.symm
 ·refine .inr ⟨l,hb,?_⟩
  have h2:=h0.2
  rw [hb] at h2
  simpa using h2
theorem key3 {e e':Env} {k:Nat} {b:AC} (he:e'= e∨∃l,e'= clear l e∧b= .cut l b.AP)(hk:b=b.AP∨∃l,b= .cut l b.AP∧k∈l):get e' k=get e k:=by
 rcases he with rfl | ⟨l,rfl,hl⟩
 ·rfl
 ·rcases hk with hk | ⟨l2,h2,hm⟩
  ·exfalso
   rw [←hk] at hl
   have:=congrArg (fun x:AC=>SizeOf.sizeOf x) hl
   simp at this
  ·have e3:AC.cut l b.AP= .cut l2 b.AP:=hl.symm.trans h2
   injection e3 with e3 _
   rw [e3]
   exact uQ hm e
set_option maxHeartbeats 2000000 in
theorem Yp:MO Tryz.prog fns (fun f=>Nat.beq f 64) 11 161 F161:=by
 intro X hP hF hD hX hdr run n hrun hrd args σ o e σ1 v hlen hcode ho hv μ w aV hs hr
 obtain⟨P,fns',gG,meth,dk⟩:=X
 simp only at hP hF hD
 subst hP hF hD
 have hen:Enters Tryz.prog 161:=gQ Tryz.func161 (by kernel_rfl) (by kernel_rfl)
 refine⟨hen,calls_of_wp_defers Tryz.func161 Yl ?_⟩
 obtain⟨q0,qS,q3,q4,qR,r0⟩:=And.intro op_ok0 (And.intro op_okS (And.intro op_ok3 (And.intro op_ok4 (And.intro op_okR trivial))))
 obtain⟨vv1,vv2,vv3,vv4,vv5⟩:=op_vV
 obtain⟨vd1,vd2,vd3⟩:=op_vD
 obtain⟨s1,s2,s3,s4,s5,s6,s7⟩:=op_str
 have T_:aX ⟨Tryz.prog,fns,gG,meth,fun f=>Nat.beq f 64⟩ run n TI (fM 0 args) σ=some (o,e,σ1):=hcode
 rw [vv1] at T_
 obtain⟨eV,sV,hV,Ho⟩:=tZ s1 T_
 rw [vv2] at hV
 obtain⟨e0,s0,h0,hb⟩:=tZ s2 hV
 obtain⟨e0',he0',hb⟩:=pq hb
 rw [vv3] at hb
 obtain⟨eS,sS,hS,hb⟩:=tZ s3 hb
 obtain⟨eS',heS',hb⟩:=pq hb
 rw [vv4] at hb
 obtain⟨eD,sD,hDd,hRr⟩:=tZ s4 hb
 obtain⟨eR,heR,hR⟩:=pq hRr
 rw [vd1] at hDd
 obtain⟨e3,s3',h3,hcnd⟩:=tZ s5 hDd
 obtain⟨e3',he3',hcnd⟩:=pq hcnd
 rw [vd2] at hcnd
 obtain⟨eF,heF,Ho⟩:=pq Ho
 rw [vv5] at Ho
 have hkeep:∀k∈[19,23,24],get eF k=get eD k:=fun k hk=>by
  obtain⟨k1,k2⟩:=Yo k hk
  rw [key3 heF k2,jQ vRr eD sD _ _ _ k1 hRr]
 have hsz:aV.size=args.length:=by have:=hr.length;simpa using this
 rw [op_nt]
 have hen0:=Ah (G:=11) hr hlen
 refine wp_seq (fH hX hrun hdr oC0 vA0 q0 [] _ { tmps:=aV ++ Array.replicate (60 - aV.size) undef,defers:=[] } μ σ w .normal e0 s0 _ hs hen0 rfl h0 fun a1 w1 hl1=>?_)
 obtain⟨Bg,st1,en1,d1⟩:=hl1
 refine wp_seq (fH hX hrun hdr oCS vS qS [] _ a1 Bg s0 w1 .normal eS sS _ st1.yJ (oh en1 he0') d1 hS fun a2 w2 hl2=>?_)
 obtain⟨yK,st2,en2,d2⟩:=hl2
 refine wp_seq (wp_seq (fH hX hrun hdr oD3 vA3 q3 [] _ a2 yK sS w2 .normal e3 s3' _ st2.yJ (oh en2 heS') d2 h3 fun a3 w3 hl3=>?_))
 obtain⟨μ3,st3,en3,d3⟩:=hl3
 have en3':=oh en3 he3'
 have hx:=en3'.rel 19
 rcases yT hcnd with ⟨h19,hcnd⟩ | ⟨h19,hcnd⟩
 ·rw [h19] at hx
  refine wp_cond_true hx ?_
  obtain⟨e4,s4',h4,hb⟩:=tZ s6 hcnd
  obtain⟨e4',he4',hb5⟩:=pq hb
  rw [vd3,op_v5] at hb5
  refine wp_seq (fH hX hrun hdr oD4 vA4 q4 [] _ a3 μ3 s3' w3 .normal e4 s4' _ st3.yJ en3' d3 h4 fun a4 w4 hl4=>?_)
  obtain⟨μ4,st4,en4,d4⟩:=hl4
  have en4':=oh en4 he4'
  simp only [aX,Option.map_eq_some_iff,qM] at hb5
  obtain⟨⟨eX,sX⟩,hb6,hbe⟩:=hb5
  cases hbe
  split at hb6
  ·rename_i v23 s5' hst23
   split at hb6
   ·rename_i v24 s6' hst24
    cases hb6
    refine wp_region ?_
    rw [TV,show List.range 3=[0,1,2] from rfl,wpOps]
    simp only [op_o50]
    refine xA (ops:=Qn) hX hrun st4.yJ en4' Ym hst23 fun u5 w5 μ5 hv5 st5=>?_
    have hd50:o50.dst=some 23:=by kernel_rfl
    have hd51:o51.dst=some 24:=by kernel_rfl
    have en5:=(en4'.mono st5.ext st5.wK).put (d:=some 23) (by decide) hv5
    rw [wpOps]
    simp only [op_o51]
    rw [hd50]
    refine xA (ops:=Qn) hX hrun st5.yJ en5 Yn hst24 fun u6 w6 μ6 hv6 st6=>?_
    have en6:=(en5.mono st6.ext st6.wK).put (d:=some 24) (by decide) hv6
    rw [hd51,wpOps]
    simp only [op_o52]
    obtain⟨g52,d52,ts,p52⟩:=op_52
    have hw52:Region.wanted o52 (yielded Qn (((a4.put (some 23) u5).put (some 24) u6)).tmps)=true:=by simp [Region.wanted,g52]
    rw [if_pos hw52]
    refine .inl ?_
    have hargs6: #[Operand.tmp 23,Operand.tmp 24].map (((a4.put (some 23) u5).put (some 24) u6)).eval= #[(((a4.put (some 23) u5).put (some 24) u6)).tmps.getD 23 undef,(((a4.put (some 23) u5).put (some 24) u6)).tmps.getD 24 undef]:=by simp [Act.eval]
    unfold Oper.wp
    have hex:(execOp ((a4.put (some 23) u5).put (some 24) u6).eval o52).run Tryz.prog w6= .ok (.defer ⟨.fn (.func 64) #[],#[(((a4.put (some 23) u5).put (some 24) u6)).tmps.getD 23 undef,(((a4.put (some 23) u5).put (some 24) u6)).tmps.getD 24 undef]⟩) w6:=by
     simp only [execOp,p52,resolve,hargs6]
     rfl
    rw [hex,Oper.upon_defer,wpOps,d52]
    have hk19:get eF 19= .b true:=by
     obtain⟨k1,k2⟩:=TY
     rw [hkeep 19 (by simp),kW (by decide),kW (by decide),key3 he4' k2,jQ vA4 _ _ _ _ _ k1 h4,h19]
    have r23:=en6.rel 23
    have r24:=en6.rel 24
    have hk23:get eF 23=get (put (some 24) v24 (put (some 23) v23 e4')) 23:=hkeep 23 (by simp)
    have hk24:get eF 24=get (put (some 24) v24 (put (some 23) v23 e4')) 24:=hkeep 24 (by simp)
    rw [←hk23] at r23
    rw [←hk24] at r24
    rcases yT Ho with ⟨_,Ho⟩ | ⟨Ua,_⟩
    ·obtain⟨rv,hrun7,rfl,rfl⟩:=TT Ho
     refine fH hX hrun hdr oCR vRr.AP qR [⟨.fn (.func 64) #[],#[((a4.put (some 23) u5).put (some 24) u6).tmps.getD 23 undef,((a4.put (some 23) u5).put (some 24) u6).tmps.getD 24 undef]⟩] _ _ μ6 _ w6 .normal eV sV _ st6.yJ (oh en6 heR) ?_ hR fun a7 w7 hl7=>?_
     ·show #[_].toList ++ a4.defers=_
      rw [d4];rfl
     ·obtain⟨μ7,Yq,en7,d7⟩:=hl7
      show Leaves _ _ a7.tmps _ a7.defers .returning w7
      rw [d7]
      have hr7:aQ μ7 w7 [get e 23,get e 24] [((a4.put (some 23) u5).put (some 24) u6).tmps.getD 23 undef,((a4.put (some 23) u5).put (some 24) u6).tmps.getD 24 undef]:=⟨_,_,rfl,aJ.mono Yq.ext Yq.wK _ _ r23,_,_,rfl,aJ.mono Yq.ext Yq.wK _ _ r24,rfl⟩
      obtain⟨hD1,hD2⟩:=hrd 64 rfl _ _ _ _ hrun7 μ7 w7 #[((a4.put (some 23) u5).put (some 24) u6).tmps.getD 23 undef,((a4.put (some 23) u5).put (some 24) u6).tmps.getD 24 undef] Yq.yJ hr7
      refine leaves_cons (by simp) ?_ ((hD2 .returning).mono fun ee u' w' q=>?_)
      ·show (callFunc _ (_ ++ #[])).run _ _=_
       rw [Array.append_empty]
       exact hD1
      ·obtain⟨rfl,uu,μ8,rfl,hvu,st8⟩:=q
       have en8:=(oh en7 heF).mono st8.ext st8.wK
       obtain⟨ur,hu1,hu2⟩:=rJ (X:=⟨Tryz.prog,fns,gG,meth,fun f=>Nat.beq f 64⟩) (fn:=Tryz.f161) st8.yJ en8 TU hv
       exact⟨ur,hu1,ur,μ8,rfl,hu2,((((((st1.trans st2).trans st3).trans st4).trans st5).trans st6).trans Yq).trans st8⟩
    ·rw [hk19] at Ua;cases Ua
   ·cases hb6
  ·cases hb6
 ·rw [h19] at hx
  refine wp_cond_false hx ?_
  cases hcnd
  refine wp_skip ?_
  refine fH hX hrun hdr oCR vRr.AP qR [] _ a3 μ3 _ w3 .normal eV sV _ st3.yJ (oh en3' heR) d3 hR fun a7 w7 hl7=>?_
  obtain⟨μ7,Yq,en7,d7⟩:=hl7
  show Leaves _ _ a7.tmps _ a7.defers .returning w7
  rw [d7]
  have hk19:get eF 19= .b false:=by rw [hkeep 19 (by simp),h19]
  rcases yT Ho with ⟨Ua,_⟩ | ⟨_,Ho⟩
  ·rw [hk19] at Ua;cases Ua
  ·cases Ho
   obtain⟨ur,hu1,hu2⟩:=rJ (X:=⟨Tryz.prog,fns,gG,meth,fun f=>Nat.beq f 64⟩) (fn:=Tryz.f161) Yq.yJ (oh en7 heF) TU hv
   exact⟨ur,hu1,ur,μ7,rfl,hu2,((st1.trans st2).trans st3).trans Yq⟩
end Go.bK.YtobmjhfgmhfocaaGreatDoor
