/- Texts of this claim, joined: Ve. -/
import Derived.Test.YtlkfbfhkcaldlaaGreatDoorM26
set_option linter.unusedVariables false
set_option linter.unusedSimpArgs false
namespace Go.Abs.YtlkfbfhkcaldlaaGreatDoor
set_option maxRecDepth 4000
def tabsP (d:Nat):List Pc:=List.replicate d (.b 9)
def eqP:List Pc:=[.b 32,.w 3 [61],.b 32]
def opnP:List Pc:=[.b 32,.w 3 [123],.b 10]
def clsP (d:Nat):List Pc:=tabsP d ++ [.w 3 [125]]
mutual
def pcS:Sm→Nat→List Pc
 | .st k nm p l r th el _,d=>
   if k=1 then [.w 4 wVar,.b 32,.w 1 nm] ++ (if p=true then [.b 32,.w 4 wPtr] else []) ++ (if isNil r=true then [.w 3 [59]] else eqP ++ pcE r 1 ++ [.w 3 [59]])
   else if k=2 then [.w 1 nm] ++ eqP ++ pcE r 1 ++ [.w 3 [59]]
   else if k=3 then pcE l 8 ++ eqP ++ pcE r 1 ++ [.w 3 [59]]
   else if k=4 then [.w 4 wIf,.b 32] ++ pcE r 1 ++ opnP ++ pcSs th (d+1) ++ clsP d ++ pcEl el d
   else if k=5 then [.w 4 wWhile,.b 32] ++ pcE r 1 ++ opnP ++ pcSs th (d+1) ++ clsP d
   else if k=6 then [.w 4 wOut,.b 32] ++ pcE r 1 ++ [.w 3 [59]]
   else if k=7 then [.w 4 wFree,.b 32] ++ pcE r 1 ++ [.w 3 [59]]
   else if k=8 then [.w 4 wDrain,.w 3 [59]]
   else if k=9 then(if isNil r=true then [.w 4 wReturn,.w 3 [59]] else [.w 4 wReturn,.b 32] ++ pcE r 1 ++ [.w 3 [59]])
   else pcE r 1 ++ [.w 3 [59]]
def pcSs:Sms→Nat→List Pc
 | .nil,_=>[]
 | .cons s r,d=>tabsP d ++ pcS s d ++ [.b 10] ++ pcSs r d
def pcEl:Sms→Nat→List Pc
 | .nil,_=>[]
 | .cons s r,d=>
   if endS r=true∧kS s=4 then [.b 32,.w 4 wElse,.b 32] ++ pcS s d
   else [.b 32,.w 4 wElse] ++ opnP ++ (tabsP (d+1) ++ pcS s (d+1) ++ [.b 10] ++ pcSs r (d+1)) ++ clsP d
end
def pcP:List (List UInt8×Bool)→Bool→List Pc
 | [],_=>[]
 | (nm,p) :: r,first=>(if first=true then [] else [.w 3 [44],.b 32]) ++ [.w 1 nm] ++ (if p=true then [.b 32,.w 4 wPtr] else []) ++ pcP r false
def pcF (f:Fm):List Pc:=[.w 4 wFunc,.b 32,.w 1 f.name,.w 3 [40]] ++ pcP f.params true ++ [.w 3 [41]] ++ (if f.ptr=true then [.b 32,.w 4 wPtr] else []) ++ opnP ++ pcSs f.body 1 ++ clsP 0 ++ [.b 10]
def pcFs:List Fm→List Pc
 | []=>[]
 | f :: r=>pcF f ++ pcFs r
def tkS (s:Sm)(d:Nat):List Tok:=tkP (pcS s d)
def tkSs (s:Sms)(d:Nat):List Tok:=tkP (pcSs s d)
def tkEl (s:Sms)(d:Nat):List Tok:=tkP (pcEl s d)
theorem tkP_tabs:∀(d:Nat),tkP (tabsP d)=[]
 | 0=>rfl
 | d+1=>by
   show tkP (.b 9 :: tabsP d)=[]
   exact tkP_tabs d
theorem tkP_cls (d:Nat):tkP (clsP d)=[tS [125]]:=by unfold clsP;rw [tkP_app,tkP_tabs];rfl
theorem tkP_opn:tkP opnP=[tS [123]]:=rfl
theorem tkP_eq:tkP eqP=[tS [61]]:=rfl
section
variable (nm:List UInt8)(p:Bool)(l r:Tr)(th el:Sms)(ln d:Nat)
theorem tkS_1:tkS (.st 1 nm p .nil r .nil .nil ln) d=tK wVar :: ⟨1,nm,0⟩ :: ((if p=true then [tK wPtr] else []) ++ (if isNil r=true then [tS [59]] else tS [61] :: (tkE r 1 ++ [tS [59]]))):=by
 cases p <;> by_cases h:isNil r=true <;> simp [tkS,pcS,tkP_app,tkP,tkP_eq,tkE,h]
theorem tkS_2:tkS (.st 2 nm false .nil r .nil .nil ln) d=⟨1,nm,0⟩ :: tS [61] :: (tkE r 1 ++ [tS [59]]):=by simp [tkS,pcS,tkP_app,tkP,tkP_eq,tkE]
theorem tkS_3:tkS (.st 3 [] false l r .nil .nil ln) d=tkE l 8 ++ tS [61] :: (tkE r 1 ++ [tS [59]]):=by simp [tkS,pcS,tkP_app,tkP,tkP_eq,tkE]
theorem tkS_4:tkS (.st 4 [] false .nil r th el ln) d=tK wIf :: (tkE r 1 ++ tS [123] :: (tkSs th (d+1) ++ tS [125] :: tkEl el d)):=by simp [tkS,tkSs,tkEl,pcS,tkP_app,tkP,tkP_opn,tkP_cls,tkE]
theorem tkS_5:tkS (.st 5 [] false .nil r th .nil ln) d=tK wWhile :: (tkE r 1 ++ tS [123] :: (tkSs th (d+1) ++ [tS [125]])):=by simp [tkS,tkSs,pcS,tkP_app,tkP,tkP_opn,tkP_cls,tkE]
theorem tkS_6:tkS (.st 6 [] false .nil r .nil .nil ln) d=tK wOut :: (tkE r 1 ++ [tS [59]]):=by simp [tkS,pcS,tkP_app,tkP,tkE]
theorem tkS_7:tkS (.st 7 [] false .nil r .nil .nil ln) d=tK wFree :: (tkE r 1 ++ [tS [59]]):=by simp [tkS,pcS,tkP_app,tkP,tkE]
theorem tkS_8:tkS (.st 8 [] false .nil .nil .nil .nil ln) d=[tK wDrain,tS [59]]:=by simp [tkS,pcS,tkP]
theorem tkS_9:tkS (.st 9 [] false .nil r .nil .nil ln) d=tK wReturn :: (if isNil r=true then [tS [59]] else tkE r 1 ++ [tS [59]]):=by
 by_cases h:isNil r=true <;> simp [tkS,pcS,tkP_app,tkP,tkE,h]
theorem tkS_10:tkS (.st 10 [] false .nil r .nil .nil ln) d=tkE r 1 ++ [tS [59]]:=by simp [tkS,pcS,tkP_app,tkP,tkE]
theorem tkSs_nil:tkSs .nil d=[]:=by simp [tkSs,pcSs,tkP]
theorem tkSs_cons (s:Sm)(r:Sms):tkSs (.cons s r) d=tkS s d ++ tkSs r d:=by simp [tkSs,tkS,pcSs,tkP_app,tkP_tabs,tkP]
theorem tkEl_nil:tkEl .nil d=[]:=by simp [tkEl,pcEl,tkP]
theorem tkEl_if (s:Sm)(r:Sms)(h:endS r=true∧kS s=4):tkEl (.cons s r) d=tK wElse :: tkS s d:=by
 simp [tkEl,pcEl,h.1,h.2,tkP_app,tkP,tkS]
theorem tkEl_no (s:Sm)(r:Sms)(h:¬(endS r=true∧kS s=4)):tkEl (.cons s r) d=tK wElse :: tS [123] :: (tkSs (.cons s r) (d+1) ++ [tS [125]]):=by
 simp [tkEl,tkSs,pcEl,pcSs,h,tkP_app,tkP,tkP_opn,tkP_cls]
end
theorem isK (s x:List UInt8)(r:List Tok):isW s (tK x :: r)=(x == s):=by simp [isW]
theorem isS (s x:List UInt8)(r:List Tok):isW s (tS x :: r)=(x == s):=by simp [isW]
def hdS (z:Tok):Prop:=hdP z∨(z.k=4∧z.s∈[wVar,wIf,wWhile,wOut,wFree,wDrain,wReturn])
theorem hd_st:∀{s:Sm},WS s→∀d,∃z r,tkS s d=z :: r∧hdS z:=by
 intro s h d
 cases h with
 | var nm p r ln h1 h2=>exact⟨_,_,tkS_1 _ _ _ _ _,.inr ⟨rfl,by decide⟩⟩
 | set nm r ln h1 h2=>exact⟨_,_,tkS_2 _ _ _ _,.inl (.inl rfl)⟩
 | cell l r ln h1 h2 h3=>obtain⟨z,y,hz,hp⟩:=hd8 h1;exact⟨z,_,by rw [tkS_3,hz];rfl,.inl hp⟩
 | iff r th el ln h1 h2 h3=>exact⟨_,_,tkS_4 _ _ _ _ _,.inr ⟨rfl,by decide⟩⟩
 | whl r th ln h1 h2=>exact⟨_,_,tkS_5 _ _ _ _,.inr ⟨rfl,by decide⟩⟩
 | out r ln h1=>exact⟨_,_,tkS_6 _ _ _,.inr ⟨rfl,by decide⟩⟩
 | free r ln h1=>exact⟨_,_,tkS_7 _ _ _,.inr ⟨rfl,by decide⟩⟩
 | drain ln=>exact⟨_,_,tkS_8 _ _,.inr ⟨rfl,by decide⟩⟩
 | ret r ln h1=>exact⟨_,_,tkS_9 _ _ _,.inr ⟨rfl,by decide⟩⟩
 | call r ln h1 h2=>
   cases h1 with
   | call nm ar ln h1 h2=>exact⟨_,_,by rw [tkS_10,tkE_call];rfl,.inl (.inl rfl)⟩
   | _=>cases h2
theorem isW_S {z:Tok} {r:List Tok} (h:hdS z)(s:List UInt8)(h1:s=wElse∨s=[125]):isW s (z :: r)=false:=by
 rcases h with h | ⟨h,hs⟩
 ·exact isW_P h s (by rcases h1 with rfl | rfl <;> decide) (by rcases h1 with rfl | rfl <;> decide) (by rcases h1 with rfl | rfl <;> decide)
 ·show ((z.k == 4 || z.k == 3) && z.s == s)=false
  simp only [List.mem_cons,List.not_mem_nil,or_false] at hs
  rw [h]
  rcases h1 with rfl | rfl <;> rcases hs with hs | hs | hs | hs | hs | hs | hs <;> rw [hs] <;> decide
theorem tkSs_head {s:Sms} (h:WSs s)(d:Nat)(ts:List Tok):isW wElse (tkSs s d ++ tS [125] :: ts)=false:=by
 cases h with
 | nil=>rw [tkSs_nil];show isW wElse (tS [125] :: ts)=false;rw [isS];decide
 | cons s r h1 h2=>
   obtain⟨z,y,hz,hp⟩:=hd_st h1 d
   rw [tkSs_cons,hz];exact isW_S hp _ (.inl rfl)
theorem ended_ok {r:Tr} (h:WT r) {d n:Nat} {ts:List Tok} (hd:d+dT r 1≤64)(hn:10*(tkE r 1 ++ tS [59] :: ts).length+10≤n):pEnded n d (tkE r 1 ++ tS [59] :: ts)= .ok (eT r) ts:=by
 obtain⟨m,rfl⟩:∃m,n=m+1:=⟨n - 1,by omega⟩
 have e:pEnded (m+1) d (tkE r 1 ++ tS [59] :: ts)=(pExpr m d 1 (tkE r 1 ++ tS [59] :: ts)).bind fun x ts=>(mustW [59] ts).bind fun _ ts=>.ok x ts:=by conv=>lhs;unfold pEnded
 rw [e,(prAll r h).whole hd (cl_of (by decide)) (noop_of (.inl (by decide))) (by omega),bind_ok,must_ok];rfl
def SOk (s:Sm):Prop:=∀d e ts n,d+dS s≤64→isW wElse ts=false→10*(tkS s e ++ ts).length+14≤n→pStmt n d (tkS s e ++ ts)= .ok (eS s) ts
def SsOk (s:Sms):Prop:=∀d e ts n,d+dSs s≤64→10*(tkSs s e ++ tS [125] :: ts).length+15≤n→pStmts n d (tkSs s e ++ tS [125] :: ts)= .ok (eSs s) (tS [125] :: ts)
def BrOk (s:Sm):Prop:=∀d e inp ts n,d+dS s≤64→isW wElse ts=false→tkS s e ++ ts=tK wIf :: inp→10*inp.length+12≤n→pBranch n d 0 inp= .ok (eS s) ts
theorem block_ok {s:Sms} (h:SsOk s) {d e n:Nat} {ts:List Tok} (hd:d+1+dSs s≤64)(hn:10*(tS [123] :: (tkSs s e ++ tS [125] :: ts)).length+10≤n):pBlock n d (tS [123] :: (tkSs s e ++ tS [125] :: ts))= .ok (eSs s) ts:=by
 obtain⟨m,rfl⟩:∃m,n=m+1:=⟨n - 1,by omega⟩
 simp only [List.length_cons] at hn
 unfold pBlock
 rw [open_ok _ _ _ (by omega),bind_ok,h (d+1) e ts m hd (by omega),bind_ok,must_ok];rfl
theorem ss_nil:SsOk .nil:=by
 intro d e ts n hd hn
 obtain⟨m,rfl⟩:∃m,n=m+1:=⟨n - 1,by omega⟩
 rw [tkSs_nil]
 show pStmts (m+1) d (tS [125] :: ts)=_
 unfold pStmts
 rw [if_pos (by rw [isS];decide)];rfl
theorem ss_cons {s:Sm} {r:Sms} (h1:WS s)(h2:WSs r)(hs:SOk s)(hr:SsOk r):SsOk (.cons s r):=by
 intro d e ts n hd hn
 obtain⟨m,rfl⟩:∃m,n=m+1:=⟨n - 1,by omega⟩
 simp only [dSs] at hd
 rw [tkSs_cons,List.append_assoc] at hn ⊢
 obtain⟨z,y,hz,hp⟩:=hd_st h1 e
 have hl:1≤(tkS s e).length:=by rw [hz];simp
 unfold pStmts
 rw [if_neg (by rw [hz,List.cons_append,isW_S hp _ (.inr rfl)];decide),hs d e _ m (by omega) (tkSs_head h2 e ts) (by omega),bind_ok,hr d e ts m (by omega) (by rw [List.length_append] at hn;omega)];rfl
theorem br_ok {r:Tr} {th el:Sms} {ln:Nat} (h1:WT r)(hth:SsOk th)(hel:SsOk el)(hif:∀s,el= .cons s .nil→kS s=4→BrOk s)(hif2:∀s,el= .cons s .nil→kS s=4→∃r' th' el' ln',s= .st 4 [] false .nil r' th' el' ln'):BrOk (.st 4 [] false .nil r th el ln):=by
 intro d e inp ts n hd he hi hn
 rw [tkS_4] at hi
 simp only [List.cons_append,List.cons.injEq,true_and,List.append_assoc] at hi
 subst hi
 simp only [dS,dT_nil,if_true] at hd
 obtain⟨m,rfl⟩:∃m,n=m+1:=⟨n - 1,by omega⟩
 have hlr:=len_pos h1 1
 unfold pBranch
 rw [(prAll r h1).whole (by omega) (cl_of (by decide)) (noop_of (.inl (by decide))) (by omega),bind_ok]
 simp only [List.length_append,List.length_cons] at hn
 rw [block_ok hth (by omega) (by simp only [List.length_cons,List.length_append];omega),bind_ok]
 cases el with
 | nil=>
   rw [tkEl_nil,List.nil_append,if_neg (by rw [he];decide)];rfl
 | cons s y=>
   by_cases hk:endS y=true∧kS s=4
   ·have hy:y= .nil:=by cases y with
        | nil=>rfl
        | cons=>cases hk.1
    subst hy
    obtain⟨r',th',el',ln',rfl⟩:=hif2 s rfl hk.2
    rw [tkEl_if _ _ _ hk,tkS_4] at hn ⊢
    simp only [dEl,if_pos hk] at hd
    simp only [List.cons_append,List.length_cons,List.length_append] at hn ⊢
    rw [if_pos (by rw [isK];decide),List.tail_cons,if_pos (by rw [isK];decide),List.tail_cons]
    rw [show lineW (tK wIf :: (tkE r' 1 ++ tS [123] :: (tkSs th' (e+1) ++ tS [125] :: tkEl el' e) ++ ts))=0 from rfl]
    rw [hif _ rfl hk.2 d e _ ts m (by omega) he (by rw [tkS_4];rfl) (by simp only [List.length_append,List.length_cons];omega),bind_ok];rfl
   ·rw [tkEl_no _ _ _ hk] at hn ⊢
    simp only [dEl,if_neg hk] at hd
    simp only [List.cons_append,List.append_assoc,List.nil_append,List.length_cons,List.length_append,List.length_nil] at hn ⊢
    rw [if_pos (by rw [isK];decide),List.tail_cons,if_neg (by rw [isS];decide),block_ok hel (by simp only [dSs];omega) (by simp only [List.length_cons,List.length_append];omega),bind_ok];rfl
theorem s_if {s:Sm} (hk:∃r' th' el' ln',s= .st 4 [] false .nil r' th' el' ln')(h:BrOk s):SOk s:=by
 intro d e ts n hd he hn
 obtain⟨r,th,el,ln,rfl⟩:=hk
 obtain⟨m,rfl⟩:∃m,n=m+1:=⟨n - 1,by omega⟩
 have hb:=h d e (tkE r 1 ++ tS [123] :: (tkSs th (e+1) ++ tS [125] :: tkEl el e) ++ ts) ts m hd he (by rw [tkS_4];rfl)
 rw [tkS_4] at hn ⊢
 simp only [List.cons_append,List.length_cons] at hn ⊢
 unfold pStmt
 rw [if_neg (by rw [isK];decide),if_pos (by rw [isK];decide)]
 exact hb (by omega)
theorem s_kw {s:Sm} {w:List UInt8} {r:Tr} {ln:Nat} {k:Nat} (hs:s= .st k [] false .nil r .nil .nil ln)(hw:WT r)(ht:∀e,tkS s e=tK w :: (tkE r 1 ++ [tS [59]]))
 (hp:∀m d ts,¬isW [59] (tkE r 1 ++ tS [59] :: ts)=true→pStmt (m+1) d (tK w :: (tkE r 1 ++ tS [59] :: ts))=(pEnded m d (tkE r 1 ++ tS [59] :: ts)).bind fun x ts=>.ok (.st k [] false .nil x .nil .nil 0) ts):SOk s:=by
 intro d e ts n hd he hn
 obtain⟨m,rfl⟩:∃m,n=m+1:=⟨n - 1,by omega⟩
 have hdd:d+dT r 1≤64:=by rw [hs] at hd;simp only [dS] at hd;omega
 rw [ht] at hn ⊢
 simp only [List.cons_append,List.append_assoc,List.nil_append,List.length_cons] at hn ⊢
 obtain⟨z,y,hz,hpp⟩:=hdA hw 1
 rw [hp m d ts (by rw [hz,List.cons_append,isW_E hpp _ (by decide) (by decide) (by decide) (by decide) (by decide)];decide),ended_ok hw hdd (by omega),bind_ok,hs];rfl
theorem s_out (r:Tr)(ln:Nat)(h:WT r):SOk (.st 6 [] false .nil r .nil .nil ln):=
 s_kw (w:=wOut) rfl h (fun e=>tkS_6 _ _ _) fun m d ts _=>by
  unfold pStmt
  rw [if_neg (by rw [isK];decide),if_neg (by rw [isK];decide),if_neg (by rw [isK];decide),if_pos (by rw [isK];decide)]
theorem s_free (r:Tr)(ln:Nat)(h:WT r):SOk (.st 7 [] false .nil r .nil .nil ln):=
 s_kw (w:=wFree) rfl h (fun e=>tkS_7 _ _ _) fun m d ts _=>by
  unfold pStmt
  rw [if_neg (by rw [isK];decide),if_neg (by rw [isK];decide),if_neg (by rw [isK];decide),if_neg (by rw [isK];decide),if_pos (by rw [isK];decide)]
theorem s_ret (r:Tr)(ln:Nat)(h:WT r):SOk (.st 9 [] false .nil r .nil .nil ln):=
 s_kw (w:=wReturn) rfl h (fun e=>by rw [tkS_9,if_neg (by rw [h.nn];decide)]) fun m d ts hne=>by
  unfold pStmt
  rw [if_neg (by rw [isK];decide),if_neg (by rw [isK];decide),if_neg (by rw [isK];decide),if_neg (by rw [isK];decide),if_neg (by rw [isK];decide),if_neg (by rw [isK];decide),if_pos (by rw [isK];decide),if_neg hne]
theorem s_ret0 (ln:Nat):SOk (.st 9 [] false .nil .nil .nil .nil ln):=by
 intro d e ts n hd he hn
 obtain⟨m,rfl⟩:∃m,n=m+1:=⟨n - 1,by omega⟩
 rw [tkS_9]
 show pStmt (m+1) d (tK wReturn :: tS [59] :: ts)=_
 unfold pStmt
 rw [if_neg (by rw [isK];decide),if_neg (by rw [isK];decide),if_neg (by rw [isK];decide),if_neg (by rw [isK];decide),if_neg (by rw [isK];decide),if_neg (by rw [isK];decide),if_pos (by rw [isK];decide),if_pos (by rw [isS];decide)];rfl
theorem s_drain (ln:Nat):SOk (.st 8 [] false .nil .nil .nil .nil ln):=by
 intro d e ts n hd he hn
 obtain⟨m,rfl⟩:∃m,n=m+1:=⟨n - 1,by omega⟩
 rw [tkS_8]
 show pStmt (m+1) d (tK wDrain :: tS [59] :: ts)=_
 unfold pStmt
 rw [if_neg (by rw [isK];decide),if_neg (by rw [isK];decide),if_neg (by rw [isK];decide),if_neg (by rw [isK];decide),if_neg (by rw [isK];decide),if_pos (by rw [isK];decide),must_ok];rfl
theorem s_whl (r:Tr)(th:Sms)(ln:Nat)(h:WT r)(hth:SsOk th):SOk (.st 5 [] false .nil r th .nil ln):=by
 intro d e ts n hd he hn
 obtain⟨m,rfl⟩:∃m,n=m+1:=⟨n - 1,by omega⟩
 rw [tkS_5] at hn ⊢
 simp only [dS,dT_nil] at hd
 simp only [show ¬(5:Nat)=4 by decide,if_false,if_true] at hd
 simp only [List.cons_append,List.append_assoc,List.nil_append,List.length_cons] at hn ⊢
 have hlr:=len_pos h 1
 unfold pStmt
 rw [if_neg (by rw [isK];decide),if_neg (by rw [isK];decide),if_pos (by rw [isK];decide),(prAll r h).whole (by omega) (cl_of (by decide)) (noop_of (.inl (by decide))) (by omega),bind_ok,
  block_ok hth (by omega) (by simp only [List.length_append,List.length_cons] at hn ⊢;omega),bind_ok];rfl
theorem ptr_part {p:Bool} {ts:List Tok} (h:isW wPtr ts=false):isW wPtr ((if p=true then [tK wPtr] else []) ++ ts)=p∧(if p=true then((if p=true then [tK wPtr] else []) ++ ts).tail else(if p=true then [tK wPtr] else []) ++ ts)=ts:=by
 cases p with
 | true=>exact⟨by show isW wPtr (tK wPtr :: ts)=true;rw [isK];decide,rfl⟩
 | false=>exact⟨h,rfl⟩
theorem s_var (nm:List UInt8)(p:Bool)(r:Tr)(ln:Nat)(h2:r= .nil∨WT r):SOk (.st 1 nm p .nil r .nil .nil ln):=by
 intro d e ts n hd he hn
 obtain⟨m,rfl⟩:∃m,n=m+1:=⟨n - 1,by omega⟩
 have hdd:d+dT r 1≤64:=by simp only [dS] at hd;omega
 rw [tkS_1] at hn ⊢
 simp only [List.cons_append,List.append_assoc,List.nil_append,List.length_cons] at hn ⊢
 unfold pStmt
 rw [if_pos (by rw [isK];decide)]
 rw [show nameW (⟨1,nm,0⟩ :: ((if p=true then [tK wPtr] else []) ++ ((if isNil r=true then [tS [59]] else tS [61] :: (tkE r 1 ++ [tS [59]])) ++ ts)))= .ok nm ((if p=true then [tK wPtr] else []) ++ ((if isNil r=true then [tS [59]] else tS [61] :: (tkE r 1 ++ [tS [59]])) ++ ts)) from rfl,bind_ok]
 have hX:isW wPtr ((if isNil r=true then [tS [59]] else tS [61] :: (tkE r 1 ++ [tS [59]])) ++ ts)=false:=by
  by_cases hr:isNil r=true
  ·rw [if_pos hr];show isW wPtr (tS [59] :: _)=false;rw [isS];decide
  ·rw [if_neg hr];show isW wPtr (tS [61] :: _)=false;rw [isS];decide
 have hp:=ptr_part (p:=p) hX
 simp only [hp.1,hp.2]
 rcases h2 with rfl | h2
 ·rw [show (if isNil .nil=true then [tS [59]] else tS [61] :: (tkE .nil 1 ++ [tS [59]])) ++ ts=tS [59] :: ts from rfl,if_neg (by rw [isS];decide),must_ok,bind_ok];rfl
 ·have hnr:¬isNil r=true:=by rw [h2.nn];decide
  rw [if_neg hnr] at hn ⊢
  simp only [List.cons_append,List.append_assoc,List.nil_append,List.length_cons,List.length_append,List.length_nil] at hn ⊢
  rw [if_pos (by rw [isS];decide),List.tail_cons,ended_ok h2 hdd (by simp only [List.length_append,List.length_cons];omega),bind_ok];rfl
theorem st_post {z:Tok} {r:List Tok} (hp:hdP z)(m d:Nat):pStmt (m+1) d (z :: r)=(pPost m d (z :: r)).bind fun x ts=>match x with
 | .nil=>.out
 | .ex k _ nm _ _ _ _ _=>
   if isW [61] ts=true then
    if k=2 then(pEnded m d ts.tail).bind fun y ts=>.ok (.st 2 nm false .nil y .nil .nil z.l) ts
    else if k=5∨k=6 then(pEnded m d ts.tail).bind fun y ts=>.ok (.st 3 [] false x y .nil .nil z.l) ts
    else .bad 4 (lineW ts)
   else if k=4 then(mustW [59] ts).bind fun _ ts=>.ok (.st 10 [] false .nil x .nil .nil z.l) ts
   else .bad 4 (lineW ts):=by
 have no:∀s,s∈[wVar,wIf,wWhile,wOut,wFree,wDrain,wReturn]→¬isW s (z :: r)=true:=by
  intro s hs
  rw [isW_P hp s (by rintro rfl;revert hs;decide) (by rintro rfl;revert hs;decide) (by rintro rfl;revert hs;decide)];decide
 conv=>lhs;unfold pStmt
 simp only
 rw [if_neg (no _ (by decide)),if_neg (no _ (by decide)),if_neg (no _ (by decide)),if_neg (no _ (by decide)),if_neg (no _ (by decide)),if_neg (no _ (by decide)),if_neg (no _ (by decide))]
 congr 1
theorem s_set (nm:List UInt8)(r:Tr)(ln:Nat)(h1:Good 1 nm)(h2:WT r):SOk (.st 2 nm false .nil r .nil .nil ln):=by
 intro d e ts n hd he hn
 obtain⟨m,rfl⟩:∃m,n=m+1:=⟨n - 1,by omega⟩
 have hdd:d+dT r 1≤64:=by simp only [dS] at hd;omega
 rw [tkS_2] at hn ⊢
 simp only [List.cons_append,List.append_assoc,List.nil_append,List.length_cons] at hn ⊢
 obtain⟨n',k1,k2⟩:=(pr_name nm ln h1).po d (tS [61] :: (tkE r 1 ++ tS [59] :: ts)) m (by rw [dT_name];omega) (by rw [isS];decide) (by rw [tkE_name];simp only [List.cons_append,List.nil_append,List.length_cons];omega)
 rw [tkE_name] at k2
 simp only [List.cons_append,List.nil_append] at k2
 rw [st_post (.inl rfl),k2,postL_end (cl_of (by decide)) (by omega),bind_ok]
 show (if isW [61] (tS [61] :: (tkE r 1 ++ tS [59] :: ts))=true then _ else _)=_
 rw [if_pos (by rw [isS];decide),if_pos rfl,List.tail_cons,ended_ok h2 hdd (by omega),bind_ok];rfl
theorem eT_ex {l:Tr} (h:kE l=5∨kE l=6):∃k n nm tx a b ar ln,l= .ex k n nm tx a b ar ln∧(k=5∨k=6):=by
 cases l with
 | nil=>rcases h with h | h <;> cases h
 | ex k n nm tx a b ar ln=>exact⟨_,_,_,_,_,_,_,_,rfl,h⟩
theorem s_cell (l r:Tr)(ln:Nat)(h1:WT l)(hk:kE l=5∨kE l=6)(h2:WT r):SOk (.st 3 [] false l r .nil .nil ln):=by
 intro d e ts n hd he hn
 obtain⟨m,rfl⟩:∃m,n=m+1:=⟨n - 1,by omega⟩
 have hdd:d+dT l 8≤64∧d+dT r 1≤64:=by simp only [dS] at hd;omega
 rw [tkS_3] at hn ⊢
 simp only [List.cons_append,List.append_assoc,List.nil_append] at hn ⊢
 obtain⟨z,y,hz,hp⟩:=hd8 h1
 have hl:=len_pos h1 8
 obtain⟨n',k1,k2⟩:=(prAll l h1).po d (tS [61] :: (tkE r 1 ++ tS [59] :: ts)) m hdd.1 (by rw [isS];decide) (by omega)
 have e1:tkE l 8 ++ tS [61] :: (tkE r 1 ++ tS [59] :: ts)=z :: (y ++ tS [61] :: (tkE r 1 ++ tS [59] :: ts)):=by rw [hz];rfl
 rw [e1] at k2 ⊢
 rw [st_post hp,k2,postL_end (cl_of (by decide)) (by omega),bind_ok]
 rw [List.length_append,List.length_cons] at hn
 obtain⟨k,n2,nm,tx,a,b,ar,ln2,rfl,hk'⟩:=eT_ex hk
 show (if isW [61] (tS [61] :: (tkE r 1 ++ tS [59] :: ts))=true then _ else _)=_
 rw [if_pos (by rw [isS];decide),if_neg (by omega),if_pos hk',List.tail_cons,ended_ok h2 hdd.2 (by omega),bind_ok]
 have hz0:z.l=0:=by
  have:∀ps:List Pc,∀z∈tkP ps,z.l=0:=by
   intro ps
   induction ps with
   | nil=>intro z hz;cases hz
   | cons p ps ih=>
     intro z hz
     cases p with
     | w k s=>
       rcases List.mem_cons.1 hz with rfl | hz
       ·rfl
       ·exact ih z hz
     | b c=>exact ih z hz
  refine this (pcE (.ex k n2 nm tx a b ar ln2) 8) z ?_
  show z∈tkE _ 8
  rw [hz];exact List.mem_cons_self ..
 rw [hz0];rfl
theorem s_call (r:Tr)(ln:Nat)(h1:WT r)(hk:kE r=4):SOk (.st 10 [] false .nil r .nil .nil ln):=by
 intro d e ts n hd he hn
 obtain⟨m,rfl⟩:∃m,n=m+1:=⟨n - 1,by omega⟩
 have hdd:d+dT r 1≤64:=by simp only [dS] at hd;omega
 rw [dT_call1 h1 hk 1 8] at hdd
 cases h1 with
 | call nm ar ln2 g1 g2=>
   have hw:WT (.ex 4 0 nm [] .nil .nil ar ln2):=.call _ _ _ g1 g2
   rw [tkS_10,show tkE (.ex 4 0 nm [] .nil .nil ar ln2) 1=tkE (.ex 4 0 nm [] .nil .nil ar ln2) 8 by rw [tkE_call,tkE_call]] at hn ⊢
   simp only [List.append_assoc,List.cons_append,List.nil_append] at hn ⊢
   obtain⟨n',k1,k2⟩:=(prAll _ hw).po d (tS [59] :: ts) m hdd (by rw [isS];decide) (by omega)
   have e1:tkE (.ex 4 0 nm [] .nil .nil ar ln2) 8 ++ tS [59] :: ts=⟨1,nm,0⟩ :: (tS [40] :: (tkA ar true ++ [tS [41]]) ++ tS [59] :: ts):=by rw [tkE_call];rfl
   rw [e1] at k2 ⊢
   rw [st_post (.inl rfl),k2,postL_end (cl_of (by decide)) (by omega),bind_ok]
   show (if isW [61] (tS [59] :: ts)=true then _ else _)=_
   rw [if_neg (by rw [isS];decide),if_pos rfl,must_ok,bind_ok];rfl
 | _=>cases hk
mutual
theorem sAll:∀(s:Sm),WS s→SOk s
 | .st k nm p l r th el ln,h=>by
   cases h with
   | var _ _ _ _ _ h2=>exact s_var _ _ _ _ h2
   | set _ _ _ h1 h2=>exact s_set _ _ _ h1 h2
   | cell _ _ _ h1 h2 h3=>exact s_cell _ _ _ h1 h2 h3
   | iff _ _ _ _ h1 h2 h3=>exact s_if ⟨_,_,_,_,rfl⟩ (br_ok h1 (ssAll _ h2) (ssAll _ h3) (ifAll _ h3) fun s he hk=>by
       subst he
       cases h3 with
       | cons _ _ g1 g2=>cases g1 <;> first | (cases hk;done) | exact⟨_,_,_,_,rfl⟩)
   | whl _ _ _ h1 h2=>exact s_whl _ _ _ h1 (ssAll _ h2)
   | out _ _ h1=>exact s_out _ _ h1
   | free _ _ h1=>exact s_free _ _ h1
   | drain _=>exact s_drain _
   | ret _ _ h1=>
     rcases h1 with rfl | h1
     ·exact s_ret0 _
     ·exact s_ret _ _ h1
   | call _ _ h1 h2=>exact s_call _ _ h1 h2
theorem ssAll:∀(s:Sms),WSs s→SsOk s
 | .nil,_=>ss_nil
 | .cons s r,h=>by
   cases h with
   | cons _ _ h1 h2=>exact ss_cons h1 h2 (sAll s h1) (ssAll r h2)
theorem brAll:∀(s:Sm),WS s→kS s=4→BrOk s
 | .st k nm p l r th el ln,h,hk=>by
   cases h with
   | iff _ _ _ _ h1 h2 h3=>
     clear hk
     exact br_ok h1 (ssAll _ h2) (ssAll _ h3) (ifAll _ h3) fun s he hk=>by
       subst he
       cases h3 with
       | cons _ _ g1 g2=>cases g1 <;> first | (cases hk;done) | exact⟨_,_,_,_,rfl⟩
   | _=>cases hk
theorem ifAll:∀(el:Sms),WSs el→∀s,el= .cons s .nil→kS s=4→BrOk s
 | .nil,_,_,he,_=>by cases he
 | .cons s r,h,s',he,hk=>by
   cases he
   cases h with
   | cons _ _ h1 h2=>exact brAll s h1 hk
end
def tkPs (ps:List (List UInt8×Bool))(b:Bool):List Tok:=tkP (pcP ps b)
theorem tkPs_cons (nm:List UInt8)(p:Bool)(r:List (List UInt8×Bool))(b:Bool):tkPs ((nm,p) :: r) b=(if b=true then [] else [tS [44]]) ++ ⟨1,nm,0⟩ :: ((if p=true then [tK wPtr] else []) ++ tkPs r false):=by
 cases b <;> cases p <;> simp [tkPs,pcP,tkP_app,tkP]
theorem tkPs_ptr (r:List (List UInt8×Bool))(ts:List Tok):isW wPtr (tkPs r false ++ tS [41] :: ts)=false:=by
 cases r with
 | nil=>show isW wPtr (tS [41] :: ts)=false;rw [isS];decide
 | cons x r=>obtain⟨nm,p⟩:=x;rw [tkPs_cons];show isW wPtr (tS [44] :: _)=false;rw [isS];decide
theorem params_ok:∀(ps:List (List UInt8×Bool)) (b:Bool) (ts:List Tok) (n:Nat),ps.length+1≤n→pParams n b (tkPs ps b ++ tS [41] :: ts)= .ok ps (tS [41] :: ts)
 | [],b,ts,n,hn=>by
   obtain⟨m,rfl⟩:∃m,n=m+1:=⟨n - 1,by omega⟩
   show pParams (m+1) b (tS [41] :: ts)=_
   unfold pParams
   rw [if_pos (by rw [isS];decide)]
 | (nm,p) :: r,b,ts,n,hn=>by
   obtain⟨m,rfl⟩:∃m,n=m+1:=⟨n - 1,by omega⟩
   have ih:=params_ok r false ts m (by simp only [List.length_cons] at hn;omega)
   have hp:=ptr_part (p:=p) (tkPs_ptr r ts)
   have main:((nameW (⟨1,nm,0⟩ :: ((if p=true then [tK wPtr] else []) ++ (tkPs r false ++ tS [41] :: ts)))).bind fun nm ts=>
        let p:=isW wPtr ts
        (pParams m false (if p=true then ts.tail else ts)).bind fun l ts=>.ok ((nm,p) :: l) ts)= .ok ((nm,p) :: r) (tS [41] :: ts):=by
    rw [show nameW (⟨1,nm,0⟩ :: ((if p=true then [tK wPtr] else []) ++ (tkPs r false ++ tS [41] :: ts)))= .ok nm ((if p=true then [tK wPtr] else []) ++ (tkPs r false ++ tS [41] :: ts)) from rfl,bind_ok]
    simp only [hp.1,hp.2]
    rw [ih,bind_ok]
   rw [tkPs_cons]
   simp only [List.append_assoc,List.cons_append]
   unfold pParams
   cases b with
   | true=>
     simp only [if_true,List.nil_append]
     rw [isW_nm,if_neg (by decide)]
     exact main
   | false=>
     simp only [Bool.false_eq_true,if_false,List.cons_append,List.nil_append]
     rw [if_neg (by rw [isS];decide),must_ok]
     exact main
def tkF (f:Fm):List Tok:=tkP (pcF f)
theorem tkF_eq (f:Fm):tkF f=tK wFunc :: ⟨1,f.name,0⟩ :: tS [40] :: (tkPs f.params true ++ tS [41] :: ((if f.ptr=true then [tK wPtr] else []) ++ tS [123] :: (tkSs f.body 1 ++ [tS [125]]))):=by
 by_cases h:f.ptr=true <;> simp [tkF,pcF,tkP_app,tkP,tkPs,tkSs,tkP_opn,tkP_cls,h]
theorem tkPs_len:∀(ps:List (List UInt8×Bool)) (b:Bool),ps.length≤(tkPs ps b).length
 | [],_=>Nat.zero_le _
 | (nm,p) :: r,b=>by
   have:=tkPs_len r false
   rw [tkPs_cons];simp only [List.length_append,List.length_cons];omega
theorem func_ok {f:Fm} (h:WFm f) {n:Nat} {ts:List Tok} (hn:10*(tkF f ++ ts).length≤n):pFunc n (tkF f ++ ts)= .ok (eF f) ts:=by
 rw [tkF_eq] at hn ⊢
 have hpl:=tkPs_len f.params true
 simp only [List.cons_append,List.append_assoc,List.nil_append,List.length_cons,List.length_append,List.length_nil] at hn ⊢
 have hp:=ptr_part (p:=f.ptr) (ts:=tS [123] :: (tkSs f.body 1 ++ tS [125] :: ts)) (by rw [isS];decide)
 unfold pFunc
 rw [must_okK,bind_ok]
 rw [show nameW (⟨1,f.name,0⟩ :: tS [40] :: (tkPs f.params true ++ tS [41] :: ((if f.ptr=true then [tK wPtr] else []) ++ tS [123] :: (tkSs f.body 1 ++ tS [125] :: ts))))= .ok f.name (tS [40] :: (tkPs f.params true ++ tS [41] :: ((if f.ptr=true then [tK wPtr] else []) ++ tS [123] :: (tkSs f.body 1 ++ tS [125] :: ts)))) from rfl,bind_ok]
 rw [open_ok _ _ _ (by omega),bind_ok,params_ok f.params true _ n (by omega),bind_ok,must_ok,bind_ok]
 simp only [hp.1,hp.2]
 rw [block_ok (ssAll _ h.body) (by have:=h.deep;omega) (by simp only [List.length_cons,List.length_append];omega),bind_ok];rfl
abbrev tEnd:Tok:=⟨5,[],0⟩
def tkFs (fs:List Fm):List Tok:=tkP (pcFs fs)
theorem tkFs_cons (f:Fm)(r:List Fm):tkFs (f :: r)=tkF f ++ tkFs r:=by simp [tkFs,tkF,pcFs,tkP_app]
theorem funcs_ok:∀(fs:List Fm),(∀f∈fs,WFm f)→∀n,10*(tkFs fs ++ [tEnd]).length+1≤n→pFuncs n (tkFs fs ++ [tEnd])= .ok (fs.map eF) [tEnd]
 | [],_,n,hn=>by
   obtain⟨m,rfl⟩:∃m,n=m+1:=⟨n - 1,by omega⟩
   show pFuncs (m+1) [tEnd]=_
   unfold pFuncs
   rw [if_pos rfl];rfl
 | f :: r,h,n,hn=>by
   obtain⟨m,rfl⟩:∃m,n=m+1:=⟨n - 1,by omega⟩
   have hf:=func_ok (h f (List.mem_cons_self ..)) (n:=m) (ts:=tkFs r ++ [tEnd])
   have ih:=funcs_ok r (fun x hx=>h x (List.mem_cons_of_mem _ hx)) m
   rw [tkFs_cons,List.append_assoc] at hn ⊢
   have e1:∃y,tkF f ++ (tkFs r ++ [tEnd])=tK wFunc :: y:=⟨_,by rw [tkF_eq];rfl⟩
   have h1:=hf (by omega)
   have h2:=ih (by rw [tkF_eq] at hn;simp only [List.length_cons,List.length_append] at hn ⊢;omega)
   obtain⟨y,hy⟩:=e1
   rw [hy] at h1 ⊢
   unfold pFuncs
   rw [if_neg (by simp),h1,bind_ok,h2];rfl
end Go.Abs.YtlkfbfhkcaldlaaGreatDoor
