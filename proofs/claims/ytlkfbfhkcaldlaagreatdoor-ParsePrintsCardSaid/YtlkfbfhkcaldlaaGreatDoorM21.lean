/- Texts of this claim, joined: Ve. -/
import Derived.Test.YtlkfbfhkcaldlaaGreatDoorM20
set_option linter.unusedVariables false
set_option linter.unusedSimpArgs false
namespace Go.Abs.YtlkfbfhkcaldlaaGreatDoor
set_option maxRecDepth 4000
def lu (d:Nat):List Pc:=List.replicate d (.b 9)
def Qr:List Pc:=[.b 32,.w 3 [61],.b 32]
def qp:List Pc:=[.b 32,.w 3 [123],.b 10]
def oQ (d:Nat):List Pc:=lu d ++ [.w 3 [125]]
mutual
def gu:Sm->Nat->List Pc
 | .st k nm p l r th el _,d=>
   if k=1 then [.w 4 Et,.b 32,.w 1 nm] ++ (if p=true then [.b 32,.w 4 dA] else []) ++ (if isNil r=true then [.w 3 [59]] else Qr ++ fH r 1 ++ [.w 3 [59]])
   else if k=2 then [.w 1 nm] ++ Qr ++ fH r 1 ++ [.w 3 [59]]
   else if k=3 then fH l 8 ++ Qr ++ fH r 1 ++ [.w 3 [59]]
   else if k=4 then [.w 4 I7,.b 32] ++ fH r 1 ++ qp ++ jo th (d+1) ++ oQ d ++ kL el d
   else if k=5 then [.w 4 ql,.b 32] ++ fH r 1 ++ qp ++ jo th (d+1) ++ oQ d
   else if k=6 then [.w 4 Eu,.b 32] ++ fH r 1 ++ [.w 3 [59]]
   else if k=7 then [.w 4 uy,.b 32] ++ fH r 1 ++ [.w 3 [59]]
   else if k=8 then [.w 4 oH,.w 3 [59]]
   else if k=9 then(if isNil r=true then [.w 4 fD,.w 3 [59]] else [.w 4 fD,.b 32] ++ fH r 1 ++ [.w 3 [59]])
   else fH r 1 ++ [.w 3 [59]]
def jo:gY->Nat->List Pc
 | .nil,_=>[]
 | .cons s r,d=>lu d ++ gu s d ++ [.b 10] ++ jo r d
def kL:gY->Nat->List Pc
 | .nil,_=>[]
 | .cons s r,d=>
   if rW r=true/\kS s=4 then [.b 32,.w 4 jJ,.b 32] ++ gu s d
   else [.b 32,.w 4 jJ] ++ qp ++ (lu (d+1) ++ gu s (d+1) ++ [.b 10] ++ jo r (d+1)) ++ oQ d
end
def rX:List (List UInt8×Bool)->Bool->List Pc
 | [],_=>[]
 | (nm,p) :: r,first=>(if first=true then [] else [.w 3 [44],.b 32]) ++ [.w 1 nm] ++ (if p=true then [.b 32,.w 4 dA] else []) ++ rX r false
def Nq (f:Fm):List Pc:=[.w 4 pV,.b 32,.w 1 f.name,.w 3 [40]] ++ rX f.params true ++ [.w 3 [41]] ++ (if f.ptr=true then [.b 32,.w 4 dA] else []) ++ qp ++ jo f.body 1 ++ oQ 0 ++ [.b 10]
def iF:List Fm->List Pc
 | []=>[]
 | f :: r=>Nq f ++ iF r
def yc (s:Sm)(d:Nat):List Tok:=jf (gu s d)
def oU (s:gY)(d:Nat):List Tok:=jf (jo s d)
def FZ (s:gY)(d:Nat):List Tok:=jf (kL s d)
theorem EZ:∀(d:Nat),jf (lu d)=[]
 | 0=>rfl
 | d+1=>by
   show jf (.b 9 :: lu d)=[]
   exact EZ d
theorem CX (d:Nat):jf (oQ d)=[tS [125]]:=by unfold oQ;rw [dR,EZ];rfl
theorem CY:jf qp=[tS [123]]:=rfl
theorem OL:jf Qr=[tS [61]]:=rfl
section
variable (nm:List UInt8)(p:Bool)(l r:Tr)(th el:gY)(ln d:Nat)
theorem tkS_1:yc (.st 1 nm p .nil r .nil .nil ln) d=tK Et :: ⟨1,nm,0⟩ :: ((if p=true then [tK dA] else []) ++ (if isNil r=true then [tS [59]] else tS [61] :: (dU r 1 ++ [tS [59]]))):=by
 cases p <;> by_cases h:isNil r=true <;> simp [yc,gu,dR,jf,OL,dU,h]
theorem tkS_2:yc (.st 2 nm false .nil r .nil .nil ln) d=⟨1,nm,0⟩ :: tS [61] :: (dU r 1 ++ [tS [59]]):=by simp [yc,gu,dR,jf,OL,dU]
theorem tkS_3:yc (.st 3 [] false l r .nil .nil ln) d=dU l 8 ++ tS [61] :: (dU r 1 ++ [tS [59]]):=by simp [yc,gu,dR,jf,OL,dU]
theorem Hu:yc (.st 4 [] false .nil r th el ln) d=tK I7 :: (dU r 1 ++ tS [123] :: (oU th (d+1) ++ tS [125] :: FZ el d)):=by simp [yc,oU,FZ,gu,dR,jf,CY,CX,dU]
theorem tkS_5:yc (.st 5 [] false .nil r th .nil ln) d=tK ql :: (dU r 1 ++ tS [123] :: (oU th (d+1) ++ [tS [125]])):=by simp [yc,oU,gu,dR,jf,CY,CX,dU]
theorem tkS_6:yc (.st 6 [] false .nil r .nil .nil ln) d=tK Eu :: (dU r 1 ++ [tS [59]]):=by simp [yc,gu,dR,jf,dU]
theorem tkS_7:yc (.st 7 [] false .nil r .nil .nil ln) d=tK uy :: (dU r 1 ++ [tS [59]]):=by simp [yc,gu,dR,jf,dU]
theorem tkS_8:yc (.st 8 [] false .nil .nil .nil .nil ln) d=[tK oH,tS [59]]:=by simp [yc,gu,jf]
theorem V9:yc (.st 9 [] false .nil r .nil .nil ln) d=tK fD :: (if isNil r=true then [tS [59]] else dU r 1 ++ [tS [59]]):=by
 by_cases h:isNil r=true <;> simp [yc,gu,dR,jf,dU,h]
theorem V_:yc (.st 10 [] false .nil r .nil .nil ln) d=dU r 1 ++ [tS [59]]:=by simp [yc,gu,dR,jf,dU]
theorem MI:oU .nil d=[]:=by simp [oU,jo,jf]
theorem Hw (s:Sm)(r:gY):oU (.cons s r) d=yc s d ++ oU r d:=by simp [oU,yc,jo,dR,EZ,jf]
theorem Wh:FZ .nil d=[]:=by simp [FZ,kL,jf]
theorem Zu (s:Sm)(r:gY)(h:rW r=true/\kS s=4):FZ (.cons s r) d=tK jJ :: yc s d:=by
 simp [FZ,kL,h.1,h.2,dR,jf,yc]
theorem Zv (s:Sm)(r:gY)(h:¬(rW r=true/\kS s=4)):FZ (.cons s r) d=tK jJ :: tS [123] :: (oU (.cons s r) (d+1) ++ [tS [125]]):=by
 simp [FZ,oU,kL,jo,h,dR,jf,CY,CX]
end
theorem isK (s x:List UInt8)(r:List Tok):aY s (tK x :: r)=(x == s):=by simp [aY]
theorem isS (s x:List UInt8)(r:List Tok):aY s (tS x :: r)=(x == s):=by simp [aY]
def hdS (z:Tok):Prop:=hdP z\/(z.k=4/\z.s∈[Et,I7,ql,Eu,uy,oH,fD])
theorem hd_st:∀{s:Sm},WS s->∀d,∃z r,yc s d=z :: r/\hdS z:=by
 intro s h d
 cases h with
 | var nm p r ln h1 h2=>exact⟨_,_,tkS_1 _ _ _ _ _,.inr ⟨rfl,by decide⟩⟩
 | set nm r ln h1 h2=>exact⟨_,_,tkS_2 _ _ _ _,.inl (.inl rfl)⟩
 | cell l r ln h1 h2 h3=>obtain⟨z,y,hz,hp⟩:=hd8 h1;exact⟨z,_,by rw [tkS_3,hz];rfl,.inl hp⟩
 | iff r th el ln h1 h2 h3=>exact⟨_,_,Hu _ _ _ _ _,.inr ⟨rfl,by decide⟩⟩
 | whl r th ln h1 h2=>exact⟨_,_,tkS_5 _ _ _ _,.inr ⟨rfl,by decide⟩⟩
 | out r ln h1=>exact⟨_,_,tkS_6 _ _ _,.inr ⟨rfl,by decide⟩⟩
 | free r ln h1=>exact⟨_,_,tkS_7 _ _ _,.inr ⟨rfl,by decide⟩⟩
 | drain ln=>exact⟨_,_,tkS_8 _ _,.inr ⟨rfl,by decide⟩⟩
 | ret r ln h1=>exact⟨_,_,V9 _ _ _,.inr ⟨rfl,by decide⟩⟩
 | call r ln h1 h2=>
   cases h1 with
   | call nm ar ln h1 h2=>exact⟨_,_,by rw [V_,lq];rfl,.inl (.inl rfl)⟩
   | _=>cases h2
theorem isW_S {z:Tok} {r:List Tok} (h:hdS z)(s:List UInt8)(h1:s=jJ\/s=[125]):aY s (z :: r)=false:=by
 rcases h with h | ⟨h,hs⟩
 ·exact MF h s (by rcases h1 with rfl | rfl <;> decide) (by rcases h1 with rfl | rfl <;> decide) (by rcases h1 with rfl | rfl <;> decide)
 ·show ((z.k == 4 || z.k == 3) && z.s == s)=false
  simp only [List.mem_cons,List.not_mem_nil,or_false] at hs
  rw [h]
  rcases h1 with rfl | rfl <;> rcases hs with hs | hs | hs | hs | hs | hs | hs <;> rw [hs] <;> decide
theorem Si {s:gY} (h:Hr s)(d:Nat)(ts:List Tok):aY jJ (oU s d ++ tS [125] :: ts)=false:=by
 cases h with
 | nil=>rw [MI];show aY jJ (tS [125] :: ts)=false;rw [isS];decide
 | cons s r h1 h2=>
   obtain⟨z,y,hz,hp⟩:=hd_st h1 d
   rw [Hw,hz];exact isW_S hp _ (.inl rfl)
theorem zx {r:Tr} (h:WT r) {d n:Nat} {ts:List Tok} (hd:d+dT r 1<=64)(hn:10*(dU r 1 ++ tS [59] :: ts).length+10<=n):bU n d (dU r 1 ++ tS [59] :: ts)= .ok (eT r) ts:=by
 obtain⟨m,rfl⟩:∃m,n=m+1:=⟨n - 1,by omega⟩
 have e:bU (m+1) d (dU r 1 ++ tS [59] :: ts)=(dn m d 1 (dU r 1 ++ tS [59] :: ts)).bind fun x ts=>(aQ [59] ts).bind fun _ ts=>.ok x ts:=by conv=>lhs;unfold bU
 rw [e,(kJ r h).whole hd (oO (by decide)) (jI (.inl (by decide))) (by omega),bind_ok,jv];rfl
def Qs (s:Sm):Prop:=∀d e ts n,d+dS s<=64->aY jJ ts=false->10*(yc s e ++ ts).length+14<=n->fE n d (yc s e ++ ts)= .ok (eS s) ts
def MJ (s:gY):Prop:=∀d e ts n,d+Cb s<=64->10*(oU s e ++ tS [125] :: ts).length+15<=n->eG n d (oU s e ++ tS [125] :: ts)= .ok (xZ s) (tS [125] :: ts)
def Wi (s:Sm):Prop:=∀d e inp ts n,d+dS s<=64->aY jJ ts=false->yc s e ++ ts=tK I7 :: inp->10*inp.length+12<=n->dQ n d 0 inp= .ok (eS s) ts
theorem zy {s:gY} (h:MJ s) {d e n:Nat} {ts:List Tok} (hd:d+1+Cb s<=64)(hn:10*(tS [123] :: (oU s e ++ tS [125] :: ts)).length+10<=n):dD n d (tS [123] :: (oU s e ++ tS [125] :: ts))= .ok (xZ s) ts:=by
 obtain⟨m,rfl⟩:∃m,n=m+1:=⟨n - 1,by omega⟩
 simp only [bg] at hn
 unfold dD
 rw [rU _ _ _ (by omega),bind_ok,h (d+1) e ts m hd (by omega),bind_ok,jv];rfl
theorem ss_nil:MJ .nil:=by
 intro d e ts n hd hn
 obtain⟨m,rfl⟩:∃m,n=m+1:=⟨n - 1,by omega⟩
 rw [MI]
 show eG (m+1) d (tS [125] :: ts)=_
 unfold eG
 rw [if_pos (by rw [isS];decide)];rfl
theorem Zw {s:Sm} {r:gY} (h1:WS s)(h2:Hr r)(hs:Qs s)(hr:MJ r):MJ (.cons s r):=by
 intro d e ts n hd hn
 obtain⟨m,rfl⟩:∃m,n=m+1:=⟨n - 1,by omega⟩
 simp only [Cb] at hd
 rw [Hw,iC] at hn ⊢
 obtain⟨z,y,hz,hp⟩:=hd_st h1 e
 have hl:1<=(yc s e).length:=by rw [hz];simp
 unfold eG
 rw [if_neg (by rw [hz,pG,isW_S hp _ (.inr rfl)];decide),hs d e _ m (by omega) (Si h2 e ts) (by omega),bind_ok,hr d e ts m (by omega) (by rw [bM] at hn;omega)];rfl
theorem br_ok {r:Tr} {th el:gY} {ln:Nat} (h1:WT r)(hth:MJ th)(hel:MJ el)(hif:∀s,el= .cons s .nil->kS s=4->Wi s)(hif2:∀s,el= .cons s .nil->kS s=4->∃r' Xk Xl OB,s= .st 4 [] false .nil r' Xk Xl OB):Wi (.st 4 [] false .nil r th el ln):=by
 intro d e inp ts n hd he hi hn
 rw [Hu] at hi
 simp only [pG,List.cons.injEq,true_and,iC] at hi
 subst hi
 simp only [dS,kC,if_true] at hd
 obtain⟨m,rfl⟩:∃m,n=m+1:=⟨n - 1,by omega⟩
 have hlr:=rV h1 1
 unfold dQ
 rw [(kJ r h1).whole (by omega) (oO (by decide)) (jI (.inl (by decide))) (by omega),bind_ok]
 simp only [bM,bg] at hn
 rw [zy hth (by omega) (by simp only [bg,bM];omega),bind_ok]
 cases el with
 | nil=>
   rw [Wh,List.nil_append,if_neg (by rw [he];decide)];rfl
 | cons s y=>
   by_cases hk:rW y=true/\kS s=4
   ·have hy:y= .nil:=by cases y with
        | nil=>rfl
        | cons=>cases hk.1
    subst hy
    obtain⟨r',Xk,Xl,OB,rfl⟩:=hif2 s rfl hk.2
    rw [Zu _ _ _ hk,Hu] at hn ⊢
    simp only [Qp,if_pos hk] at hd
    simp only [pG,bg,bM] at hn ⊢
    rw [if_pos (by rw [isK];decide),List.tail_cons,if_pos (by rw [isK];decide),List.tail_cons]
    rw [show kW (tK I7 :: (dU r' 1 ++ tS [123] :: (oU Xk (e+1) ++ tS [125] :: FZ Xl e) ++ ts))=0 from rfl]
    rw [hif _ rfl hk.2 d e _ ts m (by omega) he (by rw [Hu];rfl) (by simp only [bM,bg];omega),bind_ok];rfl
   ·rw [Zv _ _ _ hk] at hn ⊢
    simp only [Qp,if_neg hk] at hd
    simp only [pG,iC,List.nil_append,bg,bM,bZ] at hn ⊢
    rw [if_pos (by rw [isK];decide),List.tail_cons,if_neg (by rw [isS];decide),zy hel (by simp only [Cb];omega) (by simp only [bg,bM];omega),bind_ok];rfl
theorem s_if {s:Sm} (hk:∃r' Xk Xl OB,s= .st 4 [] false .nil r' Xk Xl OB)(h:Wi s):Qs s:=by
 intro d e ts n hd he hn
 obtain⟨r,th,el,ln,rfl⟩:=hk
 obtain⟨m,rfl⟩:∃m,n=m+1:=⟨n - 1,by omega⟩
 have hb:=h d e (dU r 1 ++ tS [123] :: (oU th (e+1) ++ tS [125] :: FZ el e) ++ ts) ts m hd he (by rw [Hu];rfl)
 rw [Hu] at hn ⊢
 simp only [pG,bg] at hn ⊢
 unfold fE
 rw [if_neg (by rw [isK];decide),if_pos (by rw [isK];decide)]
 exact hb (by omega)
theorem s_kw {s:Sm} {w:List UInt8} {r:Tr} {ln:Nat} {k:Nat} (hs:s= .st k [] false .nil r .nil .nil ln)(hw:WT r)(ht:∀e,yc s e=tK w :: (dU r 1 ++ [tS [59]]))
 (hp:∀m d ts,¬aY [59] (dU r 1 ++ tS [59] :: ts)=true->fE (m+1) d (tK w :: (dU r 1 ++ tS [59] :: ts))=(bU m d (dU r 1 ++ tS [59] :: ts)).bind fun x ts=>.ok (.st k [] false .nil x .nil .nil 0) ts):Qs s:=by
 intro d e ts n hd he hn
 obtain⟨m,rfl⟩:∃m,n=m+1:=⟨n - 1,by omega⟩
 have hdd:d+dT r 1<=64:=by rw [hs] at hd;simp only [dS] at hd;omega
 rw [ht] at hn ⊢
 simp only [pG,iC,List.nil_append,bg] at hn ⊢
 obtain⟨z,y,hz,hpp⟩:=hdA hw 1
 rw [hp m d ts (by rw [hz,pG,isW_E hpp _ (by decide) (by decide) (by decide) (by decide) (by decide)];decide),zx hw hdd (by omega),bind_ok,hs];rfl
theorem s_out (r:Tr)(ln:Nat)(h:WT r):Qs (.st 6 [] false .nil r .nil .nil ln):=
 s_kw (w:=Eu) rfl h (fun e=>tkS_6 _ _ _) fun m d ts _=>by
  unfold fE
  rw [if_neg (by rw [isK];decide),if_neg (by rw [isK];decide),if_neg (by rw [isK];decide),if_pos (by rw [isK];decide)]
theorem s_free (r:Tr)(ln:Nat)(h:WT r):Qs (.st 7 [] false .nil r .nil .nil ln):=
 s_kw (w:=uy) rfl h (fun e=>tkS_7 _ _ _) fun m d ts _=>by
  unfold fE
  rw [if_neg (by rw [isK];decide),if_neg (by rw [isK];decide),if_neg (by rw [isK];decide),if_neg (by rw [isK];decide),if_pos (by rw [isK];decide)]
theorem s_ret (r:Tr)(ln:Nat)(h:WT r):Qs (.st 9 [] false .nil r .nil .nil ln):=
 s_kw (w:=fD) rfl h (fun e=>by rw [V9,if_neg (by rw [h.nn];decide)]) fun m d ts hne=>by
  unfold fE
  rw [if_neg (by rw [isK];decide),if_neg (by rw [isK];decide),if_neg (by rw [isK];decide),if_neg (by rw [isK];decide),if_neg (by rw [isK];decide),if_neg (by rw [isK];decide),if_pos (by rw [isK];decide),if_neg hne]
theorem s_ret0 (ln:Nat):Qs (.st 9 [] false .nil .nil .nil .nil ln):=by
 intro d e ts n hd he hn
 obtain⟨m,rfl⟩:∃m,n=m+1:=⟨n - 1,by omega⟩
 rw [V9]
 show fE (m+1) d (tK fD :: tS [59] :: ts)=_
 unfold fE
 rw [if_neg (by rw [isK];decide),if_neg (by rw [isK];decide),if_neg (by rw [isK];decide),if_neg (by rw [isK];decide),if_neg (by rw [isK];decide),if_neg (by rw [isK];decide),if_pos (by rw [isK];decide),if_pos (by rw [isS];decide)];rfl
theorem Zx (ln:Nat):Qs (.st 8 [] false .nil .nil .nil .nil ln):=by
 intro d e ts n hd he hn
 obtain⟨m,rfl⟩:∃m,n=m+1:=⟨n - 1,by omega⟩
 rw [tkS_8]
 show fE (m+1) d (tK oH :: tS [59] :: ts)=_
 unfold fE
 rw [if_neg (by rw [isK];decide),if_neg (by rw [isK];decide),if_neg (by rw [isK];decide),if_neg (by rw [isK];decide),if_neg (by rw [isK];decide),if_pos (by rw [isK];decide),jv];rfl
theorem s_whl (r:Tr)(th:gY)(ln:Nat)(h:WT r)(hth:MJ th):Qs (.st 5 [] false .nil r th .nil ln):=by
 intro d e ts n hd he hn
 obtain⟨m,rfl⟩:∃m,n=m+1:=⟨n - 1,by omega⟩
 rw [tkS_5] at hn ⊢
 simp only [dS,kC] at hd
 simp only [show ¬(5:Nat)=4 by decide,if_false,if_true] at hd
 simp only [pG,iC,List.nil_append,bg] at hn ⊢
 have hlr:=rV h 1
 unfold fE
 rw [if_neg (by rw [isK];decide),if_neg (by rw [isK];decide),if_pos (by rw [isK];decide),(kJ r h).whole (by omega) (oO (by decide)) (jI (.inl (by decide))) (by omega),bind_ok,
  zy hth (by omega) (by simp only [bM,bg] at hn ⊢;omega),bind_ok];rfl
theorem E5 {p:Bool} {ts:List Tok} (h:aY dA ts=false):aY dA ((if p=true then [tK dA] else []) ++ ts)=p/\(if p=true then((if p=true then [tK dA] else []) ++ ts).tail else(if p=true then [tK dA] else []) ++ ts)=ts:=by
 cases p with
 | true=>exact⟨by show aY dA (tK dA :: ts)=true;rw [isK];decide,rfl⟩
 | false=>exact⟨h,rfl⟩
theorem s_var (nm:List UInt8)(p:Bool)(r:Tr)(ln:Nat)(h2:r= .nil\/WT r):Qs (.st 1 nm p .nil r .nil .nil ln):=by
 intro d e ts n hd he hn
 obtain⟨m,rfl⟩:∃m,n=m+1:=⟨n - 1,by omega⟩
 have hdd:d+dT r 1<=64:=by simp only [dS] at hd;omega
 rw [tkS_1] at hn ⊢
 simp only [pG,iC,List.nil_append,bg] at hn ⊢
 unfold fE
 rw [if_pos (by rw [isK];decide)]
 rw [show fA (⟨1,nm,0⟩ :: ((if p=true then [tK dA] else []) ++ ((if isNil r=true then [tS [59]] else tS [61] :: (dU r 1 ++ [tS [59]])) ++ ts)))= .ok nm ((if p=true then [tK dA] else []) ++ ((if isNil r=true then [tS [59]] else tS [61] :: (dU r 1 ++ [tS [59]])) ++ ts)) from rfl,bind_ok]
 have hX:aY dA ((if isNil r=true then [tS [59]] else tS [61] :: (dU r 1 ++ [tS [59]])) ++ ts)=false:=by
  by_cases hr:isNil r=true
  ·rw [if_pos hr];show aY dA (tS [59] :: _)=false;rw [isS];decide
  ·rw [if_neg hr];show aY dA (tS [61] :: _)=false;rw [isS];decide
 have hp:=E5 (p:=p) hX
 simp only [hp.1,hp.2]
 rcases h2 with rfl | h2
 ·rw [show (if isNil .nil=true then [tS [59]] else tS [61] :: (dU .nil 1 ++ [tS [59]])) ++ ts=tS [59] :: ts from rfl,if_neg (by rw [isS];decide),jv,bind_ok];rfl
 ·have hnr:¬isNil r=true:=by rw [h2.nn];decide
  rw [if_neg hnr] at hn ⊢
  simp only [pG,iC,List.nil_append,bg,bM,bZ] at hn ⊢
  rw [if_pos (by rw [isS];decide),List.tail_cons,zx h2 hdd (by simp only [bM,bg];omega),bind_ok];rfl
theorem Jr {z:Tok} {r:List Tok} (hp:hdP z)(m d:Nat):fE (m+1) d (z :: r)=(gW m d (z :: r)).bind fun x ts=>match x with
 | .nil=>.out
 | .ex k _ nm _ _ _ _ _=>
   if aY [61] ts=true then
    if k=2 then(bU m d ts.tail).bind fun y ts=>.ok (.st 2 nm false .nil y .nil .nil z.l) ts
    else if k=5\/k=6 then(bU m d ts.tail).bind fun y ts=>.ok (.st 3 [] false x y .nil .nil z.l) ts
    else .bad 4 (kW ts)
   else if k=4 then(aQ [59] ts).bind fun _ ts=>.ok (.st 10 [] false .nil x .nil .nil z.l) ts
   else .bad 4 (kW ts):=by
 have no:∀s,s∈[Et,I7,ql,Eu,uy,oH,fD]->¬aY s (z :: r)=true:=by
  intro s hs
  rw [MF hp s (by rintro rfl;revert hs;decide) (by rintro rfl;revert hs;decide) (by rintro rfl;revert hs;decide)];decide
 conv=>lhs;unfold fE
 simp only
 rw [if_neg (no _ (by decide)),if_neg (no _ (by decide)),if_neg (no _ (by decide)),if_neg (no _ (by decide)),if_neg (no _ (by decide)),if_neg (no _ (by decide)),if_neg (no _ (by decide))]
 congr 1
theorem s_set (nm:List UInt8)(r:Tr)(ln:Nat)(h1:Good 1 nm)(h2:WT r):Qs (.st 2 nm false .nil r .nil .nil ln):=by
 intro d e ts n hd he hn
 obtain⟨m,rfl⟩:∃m,n=m+1:=⟨n - 1,by omega⟩
 have hdd:d+dT r 1<=64:=by simp only [dS] at hd;omega
 rw [tkS_2] at hn ⊢
 simp only [pG,iC,List.nil_append,bg] at hn ⊢
 obtain⟨n',k1,k2⟩:=(Qo nm ln h1).po d (tS [61] :: (dU r 1 ++ tS [59] :: ts)) m (by rw [vW];omega) (by rw [isS];decide) (by rw [mX];simp only [pG,List.nil_append,bg];omega)
 rw [mX] at k2
 simp only [pG,List.nil_append] at k2
 rw [Jr (.inl rfl),k2,qO (oO (by decide)) (by omega),bind_ok]
 show (if aY [61] (tS [61] :: (dU r 1 ++ tS [59] :: ts))=true then _ else _)=_
 rw [if_pos (by rw [isS];decide),if_pos rfl,List.tail_cons,zx h2 hdd (by omega),bind_ok];rfl
theorem eT_ex {l:Tr} (h:kE l=5\/kE l=6):∃k n nm tx a b ar ln,l= .ex k n nm tx a b ar ln/\(k=5\/k=6):=by
 cases l with
 | nil=>rcases h with h | h <;> cases h
 | ex k n nm tx a b ar ln=>exact⟨_,_,_,_,_,_,_,_,rfl,h⟩
theorem s_cell (l r:Tr)(ln:Nat)(h1:WT l)(hk:kE l=5\/kE l=6)(h2:WT r):Qs (.st 3 [] false l r .nil .nil ln):=by
 intro d e ts n hd he hn
 obtain⟨m,rfl⟩:∃m,n=m+1:=⟨n - 1,by omega⟩
 have hdd:d+dT l 8<=64/\d+dT r 1<=64:=by simp only [dS] at hd;omega
 rw [tkS_3] at hn ⊢
 simp only [pG,iC,List.nil_append] at hn ⊢
 obtain⟨z,y,hz,hp⟩:=hd8 h1
 have hl:=rV h1 8
 obtain⟨n',k1,k2⟩:=(kJ l h1).po d (tS [61] :: (dU r 1 ++ tS [59] :: ts)) m hdd.1 (by rw [isS];decide) (by omega)
 have e1:dU l 8 ++ tS [61] :: (dU r 1 ++ tS [59] :: ts)=z :: (y ++ tS [61] :: (dU r 1 ++ tS [59] :: ts)):=by rw [hz];rfl
 rw [e1] at k2 ⊢
 rw [Jr hp,k2,qO (oO (by decide)) (by omega),bind_ok]
 rw [bM,bg] at hn
 obtain⟨k,n2,nm,tx,a,b,ar,qQ,rfl,hk'⟩:=eT_ex hk
 show (if aY [61] (tS [61] :: (dU r 1 ++ tS [59] :: ts))=true then _ else _)=_
 rw [if_pos (by rw [isS];decide),if_neg (by omega),if_pos hk',List.tail_cons,zx h2 hdd.2 (by omega),bind_ok]
 have hz0:z.l=0:=by
  have:∀ps:List Pc,∀z∈jf ps,z.l=0:=by
   intro ps
   induction ps with
   | nil=>intro z hz;cases hz
   | cons p ps ih=>
     intro z hz
     cases p with
     | w k s=>
       rcases List.mem_cons.1 hz with rfl | hz
       ·rfl
       ·exact ih z hz
     | b c=>exact ih z hz
  refine this (fH (.ex k n2 nm tx a b ar qQ) 8) z ?_
  show z∈dU _ 8
  rw [hz];exact List.mem_cons_self ..
 rw [hz0];rfl
theorem s_call (r:Tr)(ln:Nat)(h1:WT r)(hk:kE r=4):Qs (.st 10 [] false .nil r .nil .nil ln):=by
 intro d e ts n hd he hn
 obtain⟨m,rfl⟩:∃m,n=m+1:=⟨n - 1,by omega⟩
 have hdd:d+dT r 1<=64:=by simp only [dS] at hd;omega
 rw [MH h1 hk 1 8] at hdd
 cases h1 with
 | call nm ar qQ g1 g2=>
   have hw:WT (.ex 4 0 nm [] .nil .nil ar qQ):=.call _ _ _ g1 g2
   rw [V_,show dU (.ex 4 0 nm [] .nil .nil ar qQ) 1=dU (.ex 4 0 nm [] .nil .nil ar qQ) 8 by rw [lq,lq]] at hn ⊢
   simp only [iC,pG,List.nil_append] at hn ⊢
   obtain⟨n',k1,k2⟩:=(kJ _ hw).po d (tS [59] :: ts) m hdd (by rw [isS];decide) (by omega)
   have e1:dU (.ex 4 0 nm [] .nil .nil ar qQ) 8 ++ tS [59] :: ts=⟨1,nm,0⟩ :: (tS [40] :: (MB ar true ++ [tS [41]]) ++ tS [59] :: ts):=by rw [lq];rfl
   rw [e1] at k2 ⊢
   rw [Jr (.inl rfl),k2,qO (oO (by decide)) (by omega),bind_ok]
   show (if aY [61] (tS [59] :: ts)=true then _ else _)=_
   rw [if_neg (by rw [isS];decide),if_pos rfl,jv,bind_ok];rfl
 | _=>cases hk
mutual
theorem sAll:∀(s:Sm),WS s->Qs s
 | .st k nm p l r th el ln,h=>by
   cases h with
   | var _ _ _ _ _ h2=>exact s_var _ _ _ _ h2
   | set _ _ _ h1 h2=>exact s_set _ _ _ h1 h2
   | cell _ _ _ h1 h2 h3=>exact s_cell _ _ _ h1 h2 h3
   | iff _ _ _ _ h1 h2 h3=>exact s_if ⟨_,_,_,_,rfl⟩ (br_ok h1 (E8 _ h2) (E8 _ h3) (ifAll _ h3) fun s he hk=>by
       subst he
       cases h3 with
       | cons _ _ g1 g2=>cases g1 <;> first | (cases hk;done) | exact⟨_,_,_,_,rfl⟩)
   | whl _ _ _ h1 h2=>exact s_whl _ _ _ h1 (E8 _ h2)
   | out _ _ h1=>exact s_out _ _ h1
   | free _ _ h1=>exact s_free _ _ h1
   | drain _=>exact Zx _
   | ret _ _ h1=>
     rcases h1 with rfl | h1
     ·exact s_ret0 _
     ·exact s_ret _ _ h1
   | call _ _ h1 h2=>exact s_call _ _ h1 h2
theorem E8:∀(s:gY),Hr s->MJ s
 | .nil,_=>ss_nil
 | .cons s r,h=>by
   cases h with
   | cons _ _ h1 h2=>exact Zw h1 h2 (sAll s h1) (E8 r h2)
theorem brAll:∀(s:Sm),WS s->kS s=4->Wi s
 | .st k nm p l r th el ln,h,hk=>by
   cases h with
   | iff _ _ _ _ h1 h2 h3=>
     clear hk
     exact br_ok h1 (E8 _ h2) (E8 _ h3) (ifAll _ h3) fun s he hk=>by
       subst he
       cases h3 with
       | cons _ _ g1 g2=>cases g1 <;> first | (cases hk;done) | exact⟨_,_,_,_,rfl⟩
   | _=>cases hk
theorem ifAll:∀(el:gY),Hr el->∀s,el= .cons s .nil->kS s=4->Wi s
 | .nil,_,_,he,_=>by cases he
 | .cons s r,h,s',he,hk=>by
   cases he
   cases h with
   | cons _ _ h1 h2=>exact brAll s h1 hk
end
def AQ (ps:List (List UInt8×Bool))(b:Bool):List Tok:=jf (rX ps b)
theorem AU (nm:List UInt8)(p:Bool)(r:List (List UInt8×Bool))(b:Bool):AQ ((nm,p) :: r) b=(if b=true then [] else [tS [44]]) ++ ⟨1,nm,0⟩ :: ((if p=true then [tK dA] else []) ++ AQ r false):=by
 cases b <;> cases p <;> simp [AQ,rX,dR,jf]
theorem Wj (r:List (List UInt8×Bool))(ts:List Tok):aY dA (AQ r false ++ tS [41] :: ts)=false:=by
 cases r with
 | nil=>show aY dA (tS [41] :: ts)=false;rw [isS];decide
 | cons x r=>obtain⟨nm,p⟩:=x;rw [AU];show aY dA (tS [44] :: _)=false;rw [isS];decide
theorem Hy:∀(ps:List (List UInt8×Bool)) (b:Bool) (ts:List Tok) (n:Nat),ps.length+1<=n->cZ n b (AQ ps b ++ tS [41] :: ts)= .ok ps (tS [41] :: ts)
 | [],b,ts,n,hn=>by
   obtain⟨m,rfl⟩:∃m,n=m+1:=⟨n - 1,by omega⟩
   show cZ (m+1) b (tS [41] :: ts)=_
   unfold cZ
   rw [if_pos (by rw [isS];decide)]
 | (nm,p) :: r,b,ts,n,hn=>by
   obtain⟨m,rfl⟩:∃m,n=m+1:=⟨n - 1,by omega⟩
   have ih:=Hy r false ts m (by simp only [bg] at hn;omega)
   have hp:=E5 (p:=p) (Wj r ts)
   have main:((fA (⟨1,nm,0⟩ :: ((if p=true then [tK dA] else []) ++ (AQ r false ++ tS [41] :: ts)))).bind fun nm ts=>
        let p:=aY dA ts
        (cZ m false (if p=true then ts.tail else ts)).bind fun l ts=>.ok ((nm,p) :: l) ts)= .ok ((nm,p) :: r) (tS [41] :: ts):=by
    rw [show fA (⟨1,nm,0⟩ :: ((if p=true then [tK dA] else []) ++ (AQ r false ++ tS [41] :: ts)))= .ok nm ((if p=true then [tK dA] else []) ++ (AQ r false ++ tS [41] :: ts)) from rfl,bind_ok]
    simp only [hp.1,hp.2]
    rw [ih,bind_ok]
   rw [AU]
   simp only [iC,pG]
   unfold cZ
   cases b with
   | true=>
     simp only [if_true,List.nil_append]
     rw [Jq,if_neg (by decide)]
     exact main
   | false=>
     simp only [nR,if_false,pG,List.nil_append]
     rw [if_neg (by rw [isS];decide),jv]
     exact main
def tkF (f:Fm):List Tok:=jf (Nq f)
theorem OM (f:Fm):tkF f=tK pV :: ⟨1,f.name,0⟩ :: tS [40] :: (AQ f.params true ++ tS [41] :: ((if f.ptr=true then [tK dA] else []) ++ tS [123] :: (oU f.body 1 ++ [tS [125]]))):=by
 by_cases h:f.ptr=true <;> simp [tkF,Nq,dR,jf,AQ,oU,CY,CX,h]
theorem tkPs_len:∀(ps:List (List UInt8×Bool)) (b:Bool),ps.length<=(AQ ps b).length
 | [],_=>Nat.zero_le _
 | (nm,p) :: r,b=>by
   have:=tkPs_len r false
   rw [AU];simp only [bM,bg];omega
theorem Zy {f:Fm} (h:Qq f) {n:Nat} {ts:List Tok} (hn:10*(tkF f ++ ts).length<=n):kH n (tkF f ++ ts)= .ok (eF f) ts:=by
 rw [OM] at hn ⊢
 have hpl:=tkPs_len f.params true
 simp only [pG,iC,List.nil_append,bg,bM,bZ] at hn ⊢
 have hp:=E5 (p:=f.ptr) (ts:=tS [123] :: (oU f.body 1 ++ tS [125] :: ts)) (by rw [isS];decide)
 unfold kH
 rw [V5,bind_ok]
 rw [show fA (⟨1,f.name,0⟩ :: tS [40] :: (AQ f.params true ++ tS [41] :: ((if f.ptr=true then [tK dA] else []) ++ tS [123] :: (oU f.body 1 ++ tS [125] :: ts))))= .ok f.name (tS [40] :: (AQ f.params true ++ tS [41] :: ((if f.ptr=true then [tK dA] else []) ++ tS [123] :: (oU f.body 1 ++ tS [125] :: ts)))) from rfl,bind_ok]
 rw [rU _ _ _ (by omega),bind_ok,Hy f.params true _ n (by omega),bind_ok,jv,bind_ok]
 simp only [hp.1,hp.2]
 rw [zy (E8 _ h.body) (by have:=h.deep;omega) (by simp only [bg,bM];omega),bind_ok];rfl
abbrev iG:Tok:=⟨5,[],0⟩
def Js (fs:List Fm):List Tok:=jf (iF fs)
theorem Sj (f:Fm)(r:List Fm):Js (f :: r)=tkF f ++ Js r:=by simp [Js,tkF,iF,dR]
theorem ML:∀(fs:List Fm),(∀f∈fs,Qq f)->∀n,10*(Js fs ++ [iG]).length+1<=n->eH n (Js fs ++ [iG])= .ok (fs.map eF) [iG]
 | [],_,n,hn=>by
   obtain⟨m,rfl⟩:∃m,n=m+1:=⟨n - 1,by omega⟩
   show eH (m+1) [iG]=_
   unfold eH
   rw [if_pos rfl];rfl
 | f :: r,h,n,hn=>by
   obtain⟨m,rfl⟩:∃m,n=m+1:=⟨n - 1,by omega⟩
   have hf:=Zy (h f (List.mem_cons_self ..)) (n:=m) (ts:=Js r ++ [iG])
   have ih:=ML r (fun x hx=>h x (List.mem_cons_of_mem _ hx)) m
   rw [Sj,iC] at hn ⊢
   have e1:∃y,tkF f ++ (Js r ++ [iG])=tK pV :: y:=⟨_,by rw [OM];rfl⟩
   have h1:=hf (by omega)
   have h2:=ih (by rw [OM] at hn;simp only [bg,bM] at hn ⊢;omega)
   obtain⟨y,hy⟩:=e1
   rw [hy] at h1 ⊢
   unfold eH
   rw [if_neg (by simp),h1,bind_ok,h2];rfl
end Go.Abs.YtlkfbfhkcaldlaaGreatDoor
