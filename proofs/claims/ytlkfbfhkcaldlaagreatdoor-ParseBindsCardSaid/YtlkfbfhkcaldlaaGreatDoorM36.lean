/- Texts of this claim, joined: Ka, Kb. -/
import Derived.Test.YtlkfbfhkcaldlaaGreatDoorM30
import Derived.Test.YtlkfbfhkcaldlaaGreatDoorM27
import Derived.Test.YtlkfbfhkcaldlaaGreatDoorM35
set_option linter.unusedVariables false
set_option linter.unusedSimpArgs false
namespace Go.Abs.YtlkfbfhkcaldlaaGreatDoor
set_option maxRecDepth 4000
abbrev dW (n:Nat):Pc:=.w 2 (Lib.decDigits n)
abbrev sW (s:List UInt8):Pc:=.w 3 s
abbrev jB (n:Nat):Tr:=.ex 1 n [] [] .nil .nil .nil 0
abbrev nK (s:List UInt8)(l r:Tr):Tr:=.ex 3 0 [] s l r .nil 0
theorem WV {s:List UInt8} (h:aF s≠0):s∈[[124,124],[38,38],[61,61],[33,61],[60],[60,61],[62],[62,61],[43],[45],[124],[94],[42],[47],[37],[38],[60,60],[62,62]]:=by
 unfold aF at h
 repeat' split at h
 all_goals first | (exact(h rfl).elim) | (rename_i hh;first | (subst hh;decide) | (rcases hh with rfl | rfl <;> decide) | (rcases hh with rfl | rfl | rfl | rfl <;> decide) | (rcases hh with rfl | rfl | rfl | rfl | rfl | rfl <;> decide))
def WW (b:UInt8):Prop:=b≠47∧b≠61∧b≠38∧b≠124∧b≠60∧b≠62
theorem WX {c d:UInt8} (h:kV.contains [c,d]=true)(h1:dN c.toNat=false∧bQ c.toNat=false∧isDigit c.toNat=false∧pU c.toNat=true∧c≠47)(x:List UInt8):step (c :: d :: x)= .tok 3 2:=by
 obtain⟨h2,h3,h4,h5,h6⟩:=h1
 unfold step
 rw [if_neg (by simp [List.isPrefixOf,Ne.symm h6])]
 simp only [h2,h3,h4,h5,List.take_succ_cons,List.take_zero,h,nR,if_false,if_true]
theorem one_step {c b:UInt8} (hb:WW b)(h1:dN c.toNat=false∧bQ c.toNat=false∧isDigit c.toNat=false∧pU c.toNat=true)(x:List UInt8):step (c :: b :: x)= .tok 3 1:=by
 obtain⟨h2,h3,h4,h5⟩:=h1
 obtain⟨k1,k2,k3,k4,k5,k6⟩:=hb
 have ht:kV.contains [c,b]=false:=by
  cases hq:kV.contains [c,b] with
  | false=>rfl
  | true=>
    exfalso
    have hm:=List.contains_iff_mem.1 hq
    simp only [kV,List.mem_cons,List.cons.injEq,and_true,List.not_mem_nil,or_false] at hm
    rcases hm with h | h | h | h | h | h | h | h <;> first | exact k4 h.2 | exact k3 h.2 | exact k2 h.2 | exact k5 h.2 | exact k6 h.2
 unfold step
 rw [if_neg (by simp [List.isPrefixOf,Ne.symm k1])]
 simp only [h2,h3,h4,h5,List.take_succ_cons,List.take_zero,ht,nR,if_false,if_true]
theorem ZU {s:List UInt8} (h:aF s≠0) {b:UInt8} (hb:WW b)(x:List UInt8):step (s ++ b :: x)= .tok 3 s.length:=by
 have hm:=WV h
 simp only [List.mem_cons,List.not_mem_nil,or_false] at hm
 rcases hm with rfl | rfl | rfl | rfl | rfl | rfl | rfl | rfl | rfl | rfl | rfl | rfl | rfl | rfl | rfl | rfl | rfl | rfl <;> first | exact WX (by decide +kernel) (by decide +kernel) _ | exact one_step hb (by decide +kernel) _
theorem ZV {b:UInt8} (h:isDigit b.toNat=true):WW b:=by
 simp only [isDigit,fJ,decide_eq_true_eq] at h
 refine⟨?_,?_,?_,?_,?_,?_⟩ <;> (rintro rfl;revert h;decide)
def ZW (x:List UInt8):Prop:=∃b y,x=b :: y∧WW b
def WY (x:List UInt8):Prop:=∃b y,x=b :: y∧isWord b.toNat=false
theorem JC {n:Nat} (hn:n<4294967296) {r:List Pc} {x:List UInt8} (hx:WY (bn r ++ x))(hr:lH r x):lH (dW n :: r) x∧ZW (bn (dW n :: r) ++ x):=by
 obtain⟨b,y,h1,h2⟩:=hx
 obtain⟨c,z,h3,_⟩:=MN n
 refine⟨⟨⟨b,y,h1,by rw [h3];simp,fun x=>Hz (E_ hn) (by decide) h2 x⟩,hr⟩,c,z ++ bn r ++ x,?_,ZV (HY n c (by rw [h3];exact List.mem_cons_self ..))⟩
 show Lib.decDigits n ++ bn r ++ x=_
 rw [h3];rfl
theorem SE {s:List UInt8} (h:aF s≠0) {r:List Pc} {x:List UInt8} (hx:ZW (bn r ++ x))(hr:lH r x):lH (sW s :: r) x∧WY (bn (sW s :: r) ++ x):=by
 obtain⟨b,y,h1,h2⟩:=hx
 refine⟨⟨⟨b,y,h1,by rintro rfl;exact h (by decide),fun x=>ZU h h2 x⟩,hr⟩,?_⟩
 have hm:=WV h
 simp only [List.mem_cons,List.not_mem_nil,or_false] at hm
 rcases hm with rfl | rfl | rfl | rfl | rfl | rfl | rfl | rfl | rfl | rfl | rfl | rfl | rfl | rfl | rfl | rfl | rfl | rfl <;> exact⟨_,_,rfl,by decide +kernel⟩
theorem Nb {c:UInt8} (hc:c=40∨c=41)(b:UInt8)(x:List UInt8):step (c :: b :: x)= .tok 3 1:=by
 have h1:dN c.toNat=false∧bQ c.toNat=false∧isDigit c.toNat=false∧pU c.toNat=true∧c≠47:=by rcases hc with rfl | rfl <;> decide +kernel
 obtain⟨h2,h3,h4,h5,h6⟩:=h1
 have ht:kV.contains [c,b]=false:=by
  cases hq:kV.contains [c,b] with
  | false=>rfl
  | true=>
    exfalso
    have hm:=List.contains_iff_mem.1 hq
    simp only [kV,List.mem_cons,List.cons.injEq,and_true,List.not_mem_nil,or_false] at hm
    rcases hc with rfl | rfl <;> rcases hm with h | h | h | h | h | h | h | h <;> exact absurd h.1 (by decide)
 unfold step
 rw [if_neg (by simp [List.isPrefixOf,Ne.symm h6])]
 simp only [h2,h3,h4,h5,List.take_succ_cons,List.take_zero,ht,nR,if_false,if_true]
theorem okp1 {r:List Pc} {x:List UInt8} (hx:ZW (bn r ++ x))(hr:lH r x):lH (sW [40] :: r) x∧ZW (bn (sW [40] :: r) ++ x):=by
 obtain⟨b,y,h1,_⟩:=hx
 exact⟨⟨⟨b,y,h1,by simp,fun x=>Nb (.inl rfl) b x⟩,hr⟩,40,_,rfl,by unfold WW;decide⟩
theorem okp2 {r:List Pc} {x:List UInt8} (hx:WY (bn r ++ x))(hr:lH r x):lH (sW [41] :: r) x∧WY (bn (sW [41] :: r) ++ x):=by
 obtain⟨b,y,h1,_⟩:=hx
 exact⟨⟨⟨b,y,h1,by simp,fun x=>Nb (.inr rfl) b x⟩,hr⟩,41,_,rfl,by decide +kernel⟩
def OZ:List Pc:=[.w 4 pV,.b 32,.w 1 [102],.w 3 [40],.w 3 [41],.b 32,.w 3 [123],.b 10,.w 4 fD,.b 32]
theorem hdV_ok {e:List Pc} {x:List UInt8} (h:lH e x):lH (OZ ++ e) x:=
 Gf (by decide) (MO (k:=1) ⟨[102],by decide,by decide +kernel,rfl⟩ (by decide) (Ju (b:=40) (by decide) _) (oks (by decide) ⟨41,_,rfl,by decide⟩ (oks (by decide) ⟨32,_,rfl,by decide⟩ ⟨.inl rfl,⟨10,_,rfl,by simp,fun x=>vX (by decide) (by decide) x⟩,.inr (.inr rfl),Gf (by decide) h⟩)))
theorem ZX {e:List Pc} (h:lH e [59,10,125])(hl:(bn e).length≤30000):∃w,uj (bn OZ ++ bn e ++ [59,10,125])= .toks w∧w.map lz=jf OZ ++ (jf e ++ [tS [59],tS [125],iG]):=by
 obtain⟨l',w,h1,h2⟩:=AX (OZ ++ e) [59,10,125] 0 [] (hdV_ok h)
 refine⟨w ++ [⟨3,[59],l'⟩,⟨3,[125],l'+ 1⟩,⟨5,[],l'+ 1⟩],?_,?_⟩
 ·rw [N_ (by simp only [bM];show 18+_+3≤_;omega),←aS,h1]
  rw [Em (show step [59,10,125]= .tok 3 1 by decide +kernel) (by simp),show ([59,10,125]:List UInt8).drop 1=[10,125] from rfl,P9,Em (show step [125]= .tok 3 1 by decide +kernel) (by simp),show ([125]:List UInt8).drop 1=[] from rfl,Lc]
  simp [Ro.fin]
 ·rw [List.map_append,h2,dR]
  simp [lz]
theorem WZ {t:Tr} (h:PR t) {d n:Nat} {ts:List Tok} (hc:Cl ts)(hd:d+1+dT t 1≤64)(hn:10*(dU t 1 ++ tS [41] :: ts).length+13≤n):xP n d (tS [40] :: (dU t 1 ++ tS [41] :: ts))= .ok (eT t) ts:=by
 obtain⟨m,rfl⟩:∃m,n=m+1:=⟨n - 1,by omega⟩
 obtain⟨m,rfl⟩:∃k,m=k+1:=⟨m - 1,by omega⟩
 unfold xP
 rw [if_neg (by simp [aY])]
 unfold gW
 rw [first_par h hd (by omega)]
 exact qO hc (by omega)
theorem JD {c:Nat} {ts:List Tok} (h:rQ 1 ts)(hc:1≤c):rQ c ts:=fun z r e1 e2 e3=>by have:=h z r e1 e2 e3;omega
section
variable {a b:List UInt8} {x y z:Nat}
theorem W9 (ha:aF a≠0)(hb:aF b≠0)(hx:x<4294967296)(hy:y<4294967296)(hz:z<4294967296) {n d:Nat} {ts:List Tok} (hd:d≤40)(hc:Cl ts)(ho:rQ 1 ts)(hn:10*ts.length+80≤n) :
 dn n d 1 (jf [sW [40],dW x,sW a,dW y,sW [41],sW b,dW z] ++ ts)= .ok (nK b (nK a (jB x) (jB y)) (jB z)) ts:=by
 have hw:WT (nK a (jB x) (jB y)):=.bin _ _ _ _ ha (.num _ _ hx) (.num _ _ hy)
 have ht:dU (nK a (jB x) (jB y)) 1=[⟨2,Lib.decDigits x,0⟩,tS a,⟨2,Lib.decDigits y,0⟩]:=by
  rw [kZ _ _ _ _ _ rfl,decide_eq_false (by omega),gZ,gZ];rfl
 have hdt:dT (nK a (jB x) (jB y)) 1=0:=by
  rw [lU _ _ _ _ _ rfl,jG,jG,if_neg (by omega)];rfl
 obtain⟨m,rfl⟩:∃m,n=m+1:=⟨n - 1,by omega⟩
 show dn (m+1) d 1 (tS [40] :: (([⟨2,Lib.decDigits x,0⟩,tS a,⟨2,Lib.decDigits y,0⟩]:List Tok) ++ tS [41] :: (tS b :: (⟨2,Lib.decDigits z,0⟩ :: ts))))=_
 rw [←ht]
 unfold dn
 rw [WZ (kJ _ hw) (oO (EX hb)) (by rw [hdt];omega) (by rw [ht];simp only [bM,bg,bZ];omega),bind_ok]
 obtain⟨m,rfl⟩:∃k,m=k+1:=⟨m - 1,by omega⟩
 unfold fZ
 rw [if_pos (show (3:Nat)=3∧aF b≠0∧¬aF b<1 from⟨rfl,hb,by omega⟩)]
 have hz2:dU (jB z) (aF b+1) ++ ts=⟨2,Lib.decDigits z,0⟩ :: ts:=by rw [gZ];rfl
 obtain⟨n2,j1,j2⟩:=(kJ _ (.num z 0 hz)).ex d (aF b+1) (aF b+1) ts m (by rw [jG];omega) (Nat.le_refl _) (by have:=qN b;omega) hc (JD ho (by omega)) (by rw [hz2];simp only [bg];omega)
 rw [hz2] at j2
 rw [j2,mY hc (JD ho (by omega)) (by omega),bind_ok,mY hc ho (by omega)]
 rfl
theorem SG (ha:aF a≠0)(hb:aF b≠0)(hx:x<4294967296)(hy:y<4294967296)(hz:z<4294967296) {n d:Nat} {ts:List Tok} (hd:d≤40)(hc:Cl ts)(ho:rQ 1 ts)(hn:10*ts.length+80≤n) :
 dn n d 1 (jf [dW x,sW a,sW [40],dW y,sW b,dW z,sW [41]] ++ ts)= .ok (nK a (jB x) (nK b (jB y) (jB z))) ts:=by
 have hw:WT (nK b (jB y) (jB z)):=.bin _ _ _ _ hb (.num _ _ hy) (.num _ _ hz)
 have ht:dU (nK b (jB y) (jB z)) 1=[⟨2,Lib.decDigits y,0⟩,tS b,⟨2,Lib.decDigits z,0⟩]:=by
  rw [kZ _ _ _ _ _ rfl,decide_eq_false (by omega),gZ,gZ];rfl
 have hdt:dT (nK b (jB y) (jB z)) 1=0:=by
  rw [lU _ _ _ _ _ rfl,jG,jG,if_neg (by omega)];rfl
 have hx2:∀ts,dU (jB x) (aF a) ++ ts=⟨2,Lib.decDigits x,0⟩ :: ts:=fun ts=>by rw [gZ];rfl
 obtain⟨n2,j1,j2⟩:=(kJ _ (.num x 0 hx)).ex d 1 (aF a) (tS a :: (tS [40] :: (dU (nK b (jB y) (jB z)) 1 ++ tS [41] :: ts))) n (by rw [jG];omega) (by omega) (by have:=qN a;omega) (oO (EX ha)) (jI (.inr (by omega))) (by rw [hx2,ht];simp only [bM,bg,bZ];omega)
 rw [hx2,ht] at j2
 rw [ht] at j1
 simp only [bM,bg,bZ] at j1
 show dn n d 1 (⟨2,Lib.decDigits x,0⟩ :: tS a :: (tS [40] :: ([⟨2,Lib.decDigits y,0⟩,tS b,⟨2,Lib.decDigits z,0⟩] ++ tS [41] :: ts)))=_
 rw [j2]
 obtain⟨m,rfl⟩:∃m,n2=m+1:=⟨n2 - 1,by omega⟩
 obtain⟨m,rfl⟩:∃k,m=k+1:=⟨m - 1,by omega⟩
 unfold fZ
 rw [if_pos (show (3:Nat)=3∧aF a≠0∧¬aF a<1 from⟨rfl,ha,by omega⟩)]
 unfold dn
 rw [←ht,WZ (kJ _ hw) hc (by rw [hdt];omega) (by rw [ht];simp only [bM,bg,bZ];omega),bind_ok]
 rw [mY hc (JD ho (by omega)) (by omega),bind_ok,mY hc ho (by omega)]
 rfl
theorem W_ (ha:aF a≠0)(hb:aF b≠0)(hx:x<4294967296)(hy:y<4294967296)(hz:z<4294967296) {n d:Nat} {ts:List Tok} (hd:d≤40)(hc:Cl ts)(ho:rQ 1 ts)(hn:10*ts.length+80≤n) :
 dn n d 1 (jf [dW x,sW a,dW y,sW b,dW z] ++ ts)= .ok (if aF b≤aF a then nK b (nK a (jB x) (jB y)) (jB z) else nK a (jB x) (nK b (jB y) (jB z))) ts:=by
 by_cases h:aF b≤aF a
 ·rw [if_pos h]
  have hw:WT (nK b (nK a (jB x) (jB y)) (jB z)):=.bin _ _ _ _ hb (.bin _ _ _ _ ha (.num _ _ hx) (.num _ _ hy)) (.num _ _ hz)
  have ht:dU (nK b (nK a (jB x) (jB y)) (jB z)) 1=jf [dW x,sW a,dW y,sW b,dW z]:=by
   rw [kZ _ _ _ _ _ rfl,decide_eq_false (by omega),kZ _ _ _ _ _ rfl,decide_eq_false (by omega),gZ,gZ,gZ];rfl
  have hdt:dT (nK b (nK a (jB x) (jB y)) (jB z)) 1=0:=by
   rw [lU _ _ _ _ _ rfl,lU _ _ _ _ _ rfl,jG,jG,jG,if_neg (by omega),if_neg (by omega)];rfl
  rw [←ht,(kJ _ hw).whole (by rw [hdt];omega) hc ho (by rw [ht];simp only [jf,bM,bg,bZ];omega)]
  rfl
 ·rw [if_neg h]
  have hw:WT (nK a (jB x) (nK b (jB y) (jB z))):=.bin _ _ _ _ ha (.num _ _ hx) (.bin _ _ _ _ hb (.num _ _ hy) (.num _ _ hz))
  have ht:dU (nK a (jB x) (nK b (jB y) (jB z))) 1=jf [dW x,sW a,dW y,sW b,dW z]:=by
   rw [kZ _ _ _ _ _ rfl,decide_eq_false (by omega),kZ _ _ _ _ _ rfl,decide_eq_false (by omega),gZ,gZ,gZ];rfl
  have hdt:dT (nK a (jB x) (nK b (jB y) (jB z))) 1=0:=by
   rw [lU _ _ _ _ _ rfl,lU _ _ _ _ _ rfl,jG,jG,jG,if_neg (by omega),if_neg (by omega)];rfl
  rw [←ht,(kJ _ hw).whole (by rw [hdt];omega) hc ho (by rw [ht];simp only [jf,bM,bg,bZ];omega)]
  rfl
end
def fmV (t:Tr):Fm:=⟨[102],[],false,.cons (.st 9 [] false .nil t .nil .nil 0) .nil,0⟩
theorem Xa {E:List Tok} {t:Tr} {n:Nat} (hh:aY [59] (E ++ [tS [59],tS [125],iG])=false)(hE:∀n,110≤n→dn n 1 1 (E ++ [tS [59],tS [125],iG])= .ok t [tS [59],tS [125],iG])(hn:120≤n) :
 eH n (jf OZ ++ (E ++ [tS [59],tS [125],iG]))= .ok [fmV t] [iG]:=by
 obtain⟨m,rfl⟩:∃m,n=m+6:=⟨n - 6,by omega⟩
 have h1:bU (m+1+1) 1 (E ++ [tS [59],tS [125],iG])= .ok t [tS [125],iG]:=by
  show (dn (m+1) 1 1 (E ++ [tS [59],tS [125],iG])).bind _=_
  rw [hE _ (by omega)];rfl
 have h2:fE (m+1+1+1) 1 (tK fD :: (E ++ [tS [59],tS [125],iG]))= .ok (.st 9 [] false .nil t .nil .nil 0) [tS [125],iG]:=by
  unfold fE
  rw [if_neg (by rw [isK];decide),if_neg (by rw [isK];decide),if_neg (by rw [isK];decide),if_neg (by rw [isK];decide),if_neg (by rw [isK];decide),if_neg (by rw [isK];decide),if_pos (by rw [isK];decide),if_neg (by rw [hh];decide),h1];rfl
 have h3:eG (m+1+1+1+1) 1 (tK fD :: (E ++ [tS [59],tS [125],iG]))= .ok (.cons (.st 9 [] false .nil t .nil .nil 0) .nil) [tS [125],iG]:=by
  have e:eG (m+1+1+1) 1 [tS [125],iG]= .ok .nil [tS [125],iG]:=by
   unfold eG
   rw [if_pos (by decide)]
  conv=>lhs;unfold eG
  rw [if_neg (by rw [isK];decide),h2,bind_ok,e];rfl
 have h4:dD (m+1+1+1+1+1) 0 (tS [123] :: tK fD :: (E ++ [tS [59],tS [125],iG]))= .ok (.cons (.st 9 [] false .nil t .nil .nil 0) .nil) [iG]:=by
  unfold dD
  rw [show gV [123] 0 (tS [123] :: tK fD :: (E ++ [tS [59],tS [125],iG]))= .ok () (tK fD :: (E ++ [tS [59],tS [125],iG])) from rfl,bind_ok,h3];rfl
 have h5:kH (m+1+1+1+1+1) (jf OZ ++ (E ++ [tS [59],tS [125],iG]))= .ok (fmV t) [iG]:=by
  show (dD (m+1+1+1+1+1) 0 (tS [123] :: tK fD :: (E ++ [tS [59],tS [125],iG]))).bind _=_
  rw [h4];rfl
 have h6:eH (m+6) (jf OZ ++ (E ++ [tS [59],tS [125],iG]))= .ok [fmV t] [iG]:=by
  show (kH (m+1+1+1+1+1) (jf OZ ++ (E ++ [tS [59],tS [125],iG]))).bind _=_
  rw [h5];rfl
 exact h6
theorem eT_nil:∀{t:Tr},eT t= .nil→t= .nil
 | .nil,_=>rfl
 | .ex ..,h=>by cases h
theorem JE:∀{t:gY},xZ t= .nil→t= .nil
 | .nil,_=>rfl
 | .cons ..,h=>by cases h
theorem fmV_of {g:Fm} {t:Tr} (h:eF g=fmV t):∃R ln qQ,g=⟨[102],[],false,.cons (.st 9 [] false .nil R .nil .nil ln) .nil,qQ⟩∧eT R=t:=by
 obtain⟨nm,ps,pt,b,qQ⟩:=g
 simp only [eF,fmV,Fm.mk.injEq] at h
 obtain⟨rfl,rfl,rfl,hb,_⟩:=h
 cases b with
 | nil=>cases hb
 | cons s r=>
   obtain⟨k,n2,p,l,r2,th,el,ln⟩:=s
   simp only [xZ,eS,gY.cons.injEq,Sm.st.injEq] at hb
   obtain⟨⟨rfl,rfl,rfl,h1,h2,h3,h4,_⟩,h5⟩:=hb
   obtain rfl:=eT_nil h1
   obtain rfl:=JE h3
   obtain rfl:=JE h4
   obtain rfl:=JE h5
   exact⟨r2,ln,qQ,rfl,h2⟩
theorem O0 {e:List Pc} {t:Tr} (h:lH e [59,10,125])(hl:(bn e).length≤30000)(h5:5≤(jf e).length)(hh:aY [59] (jf e ++ [tS [59],tS [125],iG])=false)
 (hE:∀n,110≤n→dn n 1 1 (jf e ++ [tS [59],tS [125],iG])= .ok t [tS [59],tS [125],iG]) :
 ∃ w R ln qQ us,uj (bn OZ ++ bn e ++ [59,10,125])= .toks w∧eH (10*w.length+11) w= .ok [⟨[102],[],false,.cons (.st 9 [] false .nil R .nil .nil ln) .nil,qQ⟩] us∧eT R=t:=by
 obtain⟨w,h1,h2⟩:=ZX h hl
 have hlen:w.length=(jf OZ ++ (jf e ++ [tS [59],tS [125],iG])).length:=by rw [←h2,List.length_map]
 have hlen2:(jf OZ).length=6:=rfl
 simp only [bM,bg,bZ,hlen2] at hlen
 have h3:=Xa hh hE (n:=10*w.length+11) (by omega)
 rw [←h2,lzFs] at h3
 cases hr:eH (10*w.length+11) w with
 | ok gs ts=>
   rw [hr] at h3
   simp only [Re.er,Re.ok.injEq] at h3
   obtain⟨h3,_⟩:=h3
   cases gs with
   | nil=>cases h3
   | cons g gs=>cases gs with
     | cons _ _=>
       have:=congrArg List.length h3
       simp at this
     | nil=>
       simp only [List.map_cons,List.map_nil,List.cons.injEq,and_true] at h3
       obtain⟨R,ln,qQ,rfl,hR⟩:=fmV_of h3
       exact⟨w,R,ln,qQ,ts,h1,hr,hR⟩
 | bad c l=>rw [hr] at h3;cases h3
 | out=>rw [hr] at h3;cases h3
end Go.Abs.YtlkfbfhkcaldlaaGreatDoor
namespace Go.Abs.YtlkfbfhkcaldlaaGreatDoor
open Go.Proofs
set_option maxRecDepth 4000
abbrev fmR (R:Tr)(ln qQ:Nat):Fm:=⟨[102],[],false,.cons (.st 9 [] false .nil R .nil .nil ln) .nil,qQ⟩
structure Val (e:List Pc)(t:Tr):Prop where
 len:(bn e).length≤1000
 out:(bn (fH t 1)).length≤1000
 wt:WT t
 ps:∃R ln qQ us,jR (bn OZ ++ bn e ++ [59,10,125])= .ok [fmR R ln qQ] us∧eT R=t
theorem A8 {e:List Pc} {t:Tr} (h:lH e [59,10,125])(hl:(bn e).length≤30000)(h5:5≤(jf e).length)(hh:aY [59] (jf e ++ [tS [59],tS [125],iG])=false)
 (hE:∀n,110≤n→dn n 1 1 (jf e ++ [tS [59],tS [125],iG])= .ok t [tS [59],tS [125],iG]) :
 ∃ R ln qQ us,jR (bn OZ ++ bn e ++ [59,10,125])= .ok [fmR R ln qQ] us∧eT R=t:=by
 obtain⟨w,R,ln,qQ,us,h1,h2,h3⟩:=O0 h hl h5 hh hE
 exact⟨R,ln,qQ,us,by unfold jR;rw [h1];exact h2,h3⟩
section
variable {e:List Pc} {t:Tr} {σ:St}
theorem qP (h:Val e t)(hg:σ.take G0.length=G0) {Q:AV→St→Prop} (q:∀(S:Nat→Prop) (v:AV) (R:Tr) (σ':St),Ext σ σ'→bP S σ' v R→eT R=t→Q v σ'):au X 14 [.s (bn e)] σ Q:=by
 obtain⟨R,ln,qQ,us,hr,hT⟩:=h.ps
 have hl:=h.len
 have hR0:R≠.nil:=by rintro rfl;rw [←hT] at h;cases h.wt
 refine au.body (F:=F14) ay (lit:=false) rfl rfl (aU rfl) ?_
 conv=>whnf
 refine⟨by(try simp only [bM,bg,bZ]);omega,?_⟩
 conv=>whnf
 refine⟨by(try simp only [bM,bg,bZ]);omega,?_⟩
 conv=>whnf
 refine Jk _ σ hg _ ?_
 change PPr σ _ (jR (bn OZ ++ bn e ++ [59,10,125]))
 rw [hr]
 intro o1 σ2 x2 hp1
 obtain⟨op,A,hsp,heq,hop,hA⟩:=hp1
 cases heq
 rcases hA with ⟨h0,_⟩ | ⟨o2,g2,cs,hs2,rfl,hcs,hea,hne⟩
 ·cases h0
 ·cases cs with
  | nil=>exact(hne rfl).elim
  | cons a tl=>cases tl with
    | cons b tl=>exact hea.2.2.elim
    | nil=>
      obtain⟨_,⟨of,Af,Bd,hsf,rfl,hof,hpm,ob,gb,cs2,hsb,rfl,hob,a2,tl2,rfl,hsm,rfl⟩,_⟩:=hea
      obtain⟨os,gs,L,R',T,E,hss,rfl,hos,hL,hRR,hTT,hEE⟩:=hsm
      have hRp:∃o g,R'= .p o g 0:=by
       cases R with
       | nil=>exact(hR0 rfl).elim
       | ex=>obtain⟨o,g,_,_,_,_,e,_⟩:=hRR;exact⟨o,g,e⟩
      obtain⟨oR,gR,rfl⟩:=hRp
      conv=>whnf
      refine ak (aj (T:=ug) rfl rfl (ah (hop)) rfl) ?_
      conv=>whnf
      refine ak (aj (T:=ug) rfl rfl (ah (hop)) rfl) ?_
      conv=>whnf
      refine⟨0,rfl,Nat.zero_lt_one,?_⟩
      conv=>whnf
      refine ak (aj (T:=dY) rfl rfl (ah hcs) (show ([.p of 0 0]:List AV)[0+0*1]? =some (.p of 0 0) from rfl)) ?_
      conv=>whnf
      refine ak (aj (T:=dL) rfl rfl (ah (hof)) rfl) ?_
      conv=>whnf
      refine ak (aj (T:=ug) rfl rfl (ah (hop)) rfl) ?_
      conv=>whnf
      refine⟨0,rfl,Nat.zero_lt_one,?_⟩
      conv=>whnf
      refine ak (aj (T:=dY) rfl rfl (ah hcs) (show ([.p of 0 0]:List AV)[0+0*1]? =some (.p of 0 0) from rfl)) ?_
      conv=>whnf
      refine ak (aj (T:=dL) rfl rfl (ah (hof)) rfl) ?_
      conv=>whnf
      refine⟨0,rfl,Nat.zero_lt_one,?_⟩
      conv=>whnf
      refine ak (aj (T:=dH) rfl rfl (ah hob) (show ([.p os gs 0]:List AV)[0+0*1]? =some (.p os gs 0) from rfl)) ?_
      conv=>whnf
      refine ak (aj (T:=fF) rfl rfl (ah (hos)) rfl) ?_
      conv=>whnf
      refine ak (aj (T:=ug) rfl rfl (ah (hop)) rfl) ?_
      conv=>whnf
      refine⟨0,rfl,Nat.zero_lt_one,?_⟩
      conv=>whnf
      refine ak (aj (T:=dY) rfl rfl (ah hcs) (show ([.p of 0 0]:List AV)[0+0*1]? =some (.p of 0 0) from rfl)) ?_
      conv=>whnf
      refine ak (aj (T:=dL) rfl rfl (ah (hof)) rfl) ?_
      conv=>whnf
      refine⟨0,rfl,Nat.zero_lt_one,?_⟩
      conv=>whnf
      refine ak (aj (T:=dH) rfl rfl (ah hob) (show ([.p os gs 0]:List AV)[0+0*1]? =some (.p os gs 0) from rfl)) ?_
      conv=>whnf
      refine ak (aj (T:=aW) rfl rfl (ah (hos)) rfl) ?_
      conv=>whnf
      exact Fin.ref rfl (q _ _ R σ2 x2 hRR hT)
theorem ZY (a b:List UInt8)(hl:(a ++ b).length≤1000000):au X 81 [.s (a ++ b),.s a] σ fun v s=>v= .b true∧s=σ:=by
 have hlen:a.length≤(a ++ b).length:=by rw [bM];omega
 refine au.body (F:=F81) ay (lit:=false) rfl rfl (aU rfl) ?_
 conv=>whnf
 rw [decide_eq_true (show (a.length:Int)≤((a ++ b).length:Int) by omega)]
 conv=>whnf
 refine⟨a.length,rfl,hlen,?_⟩
 conv=>whnf
 rw [List.take_left,beq_self_eq_true]
 conv=>whnf
 exact Fin.flat rfl iq ⟨rfl,rfl⟩
theorem Z4 (a b:List UInt8)(hl:(a ++ b).length≤1000000):au X 98 [.s (a ++ b),.s b] σ fun v s=>v= .b true∧s=σ:=by
 have hlen:a.length+b.length=(a ++ b).length:=by rw [bM]
 refine au.body (F:=F98) ay (lit:=false) rfl rfl (aU rfl) ?_
 conv=>whnf
 rw [decide_eq_true (show (b.length:Int)≤((a ++ b).length:Int) by omega)]
 conv=>whnf
 refine⟨(a.length:Int),by rw [wrap_i64 (by omega) (by omega)];omega,?_⟩
 conv=>whnf
 refine⟨a.length,rfl,by omega,?_⟩
 conv=>whnf
 rw [List.drop_left,beq_self_eq_true]
 conv=>whnf
 exact Fin.flat rfl iq ⟨rfl,rfl⟩
theorem Z5 (a b:List UInt8)(hl:(a ++ b).length≤1000000):au X 31 [.s (a ++ b),.s a] σ fun v s=>v= .tu [.s b,.b true]∧s=σ:=by
 have h1:au X 66 [.s (a ++ b),.s a] σ fun v s=>v= .tu [.s b,.b true]∧s=σ:=by
  have hlen:a.length≤(a ++ b).length:=by rw [bM];omega
  refine au.body (F:=F66) ay (lit:=false) rfl rfl (aU rfl) ?_
  conv=>whnf
  refine au.to (ZY a b hl) ?_
  conv=>whnf
  refine⟨a.length,rfl,hlen,?_⟩
  conv=>whnf
  rw [List.drop_left]
  exact Fin.flat rfl iq ⟨rfl,rfl⟩
 refine au.body (F:=F31) ay (lit:=false) rfl rfl (aU rfl) ?_
 conv=>whnf
 refine au.to h1 ?_
 conv=>whnf
 exact Fin.flat rfl iq ⟨rfl,rfl⟩
theorem Z7 (a b:List UInt8)(hl:(a ++ b).length≤1000000):au X 32 [.s (a ++ b),.s b] σ fun v s=>v= .tu [.s a,.b true]∧s=σ:=by
 have h1:au X 67 [.s (a ++ b),.s b] σ fun v s=>v= .tu [.s a,.b true]∧s=σ:=by
  have hlen:a.length+b.length=(a ++ b).length:=by rw [bM]
  refine au.body (F:=F67) ay (lit:=false) rfl rfl (aU rfl) ?_
  conv=>whnf
  refine au.to (Z4 a b hl) ?_
  conv=>whnf
  refine⟨(a.length:Int),by rw [wrap_i64 (by omega) (by omega)];omega,?_⟩
  conv=>whnf
  refine⟨a.length,rfl,by omega,?_⟩
  conv=>whnf
  rw [List.take_left]
  exact Fin.flat rfl iq ⟨rfl,rfl⟩
 refine au.body (F:=F32) ay (lit:=false) rfl rfl (aU rfl) ?_
 conv=>whnf
 refine au.to h1 ?_
 conv=>whnf
 exact Fin.flat rfl iq ⟨rfl,rfl⟩
theorem vZ (h:Val e t)(hg:σ.take G0.length=G0) {Q:AV→St→Prop} (q:Q (.s (bn (fH t 1))) σ):au X 15 [.s (bn e)] σ Q:=by
 obtain⟨R,ln,qQ,us,hr,hT⟩:=h.ps
 have hl:=h.len
 have hlo:=h.out
 have hp:=ZB hr
 have htx:bn (iF [fmR R ln qQ])=[102,117,110,99,32,102,40,41,32,123,10,9,114,101,116,117,114,110,32] ++ (bn (fH t 1) ++ [59,10,125,10]):=by
  rw [←WU]
  have hw:=h.wt.nn
  show bn (iF [eF (fmR R ln qQ)])=_
  have e1:eF (fmR R ln qQ)=fmR t 0 0:=by simp only [eF,fmR,xZ,eS,eT,hT]
  rw [e1]
  simp [iF,Nq,rX,jo,gu,hw,aS,bn,lu,qp,oQ,pV,fD]
 have hll:(bn (iF [fmR R ln qQ])).length≤2000:=by rw [htx];simp only [bM,bg,bZ];omega
 refine au.body (F:=F15) ay (lit:=false) rfl rfl (aU rfl) ?_
 conv=>whnf
 refine⟨by(try simp only [bM,bg,bZ]);omega,?_⟩
 conv=>whnf
 refine⟨by(try simp only [bM,bg,bZ]);omega,?_⟩
 conv=>whnf
 refine Jk _ σ hg _ ?_
 change PPr σ _ (jR (bn OZ ++ bn e ++ [59,10,125]))
 rw [hr]
 intro o1 σ2 x2 hp1
 conv=>whnf
 refine WO (iJ x2 hg) hp1 hp (fun hbig=>absurd hbig (by omega)) (fun _ σ3 x3=>?_)
 rw [htx] at hll ⊢
 conv=>whnf
 refine au.to (Z5 _ _ (by omega)) ?_
 rw [bM] at hll
 conv=>whnf
 refine au.to (Z7 _ _ (by omega)) ?_
 conv=>whnf
 exact Fin.flat rfl (x2.trans x3).take q
end
end Go.Abs.YtlkfbfhkcaldlaaGreatDoor
