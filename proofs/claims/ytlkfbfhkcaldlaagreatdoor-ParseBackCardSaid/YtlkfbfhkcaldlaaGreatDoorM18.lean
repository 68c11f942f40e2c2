/- Texts of this claim, joined: Wq, Lx, Ly, Cy. -/
import Derived.Test.YtlkfbfhkcaldlaaGreatDoorM13
import Derived.Test.YtlkfbfhkcaldlaaGreatDoorM14
import Derived.Test.YtlkfbfhkcaldlaaGreatDoorM15
import Derived.Test.YtlkfbfhkcaldlaaGreatDoorM16
import Derived.Test.YtlkfbfhkcaldlaaGreatDoorM17
import Derived.Lib.Bytealg
import Derived.Lib.ParseIntB
import GoSem.Core.Value
import Derived.Test.YtlkfbfhkcaldlaaGreatDoorM09
set_option linter.unusedVariables false
set_option linter.unusedSimpArgs false
namespace Go.Abs.YtlkfbfhkcaldlaaGreatDoor
open Go.Proofs
set_option maxRecDepth 10000000
def pks:List Pk:=[pk0,pk1,pk2,pk3,pk4]
theorem Nz:∀k∈pks,k.Good X1:=by
 intro k hk
 simp only [pks,List.mem_cons,List.not_mem_nil,or_false] at hk
 rcases hk with rfl | rfl | rfl | rfl | rfl
 ·exact Ns
 ·exact Nu
 ·exact Nv
 ·exact Nw
 ·exact Ny
@[reducible] noncomputable def XK:Ctx:=X1.add 10 (pPk pks 10)
theorem NC:XK.Sound 10:=Ctx.oH Ej _ _ (fun _ _ _ _ h _ _ _ hs hr=>Nl Ej Nz h hs hr)
theorem JD:(aFn XK 1000 7 [] G0).map (·.1)=some (.b true):=by kernel_rfl
end Go.Abs.YtlkfbfhkcaldlaaGreatDoor
namespace Go.Abs.YtlkfbfhkcaldlaaGreatDoor
def isLetter (c:Int):Bool:=(decide (97≤c) && decide (c≤122)) || (decide (65≤c) && decide (c≤90)) || c == 95
def isDigit (c:Int):Bool:=decide (48≤c) && decide (c≤57)
def isBlank (c:Int):Bool:=c == 32 || c == 9 || c == 13 || c == 10
def isWord (c:Int):Bool:=isLetter c || isDigit c
def ones:List UInt8:=[40,41,123,125,91,93,44,59,58,61,60,62,43,45,124,94,38,42,47,37,33]
def isOne (c:Int):Bool:=decide (0≤Lib.indexByte ones (IntKind.u8.wrap c).toNat.toUInt8) && decide (c<128)
def kindOf (c:Int):Int:=if isBlank c then 1 else if isLetter c then 2 else if isDigit c then 3 else if isOne c then 4 else 0
def run (p:Int→Bool):List UInt8→Nat
 | []=>0
 | c :: t=>if p c.toNat then run p t+1 else 0
theorem run_le (p:Int→Bool):∀t,run p t≤t.length
 | []=>Nat.le_refl _
 | c :: t=>by
   simp only [run,List.length_cons]
   split
   ·have:=run_le p t;omega
   ·omega
theorem run_pos {p:Int→Bool} {c:UInt8} (t:List UInt8)(h:p c.toNat=true):0<run p (c :: t):=by simp [run,h]
def keys:List (List UInt8):=[[102,117,110,99],[118,97,114],[112,116,114],[105,102],[101,108,115,101],[119,104,105,108,101],[111,117,116],[102,114,101,101],[100,114,97,105,110],[114,101,116,117,114,110],[110,101,119],[105,110]]
def twos:List (List UInt8):=[[124,124],[38,38],[61,61],[33,61],[60,61],[62,61],[60,60],[62,62]]
def tooBig (l:List UInt8):Bool:=match Lib.parseUintB 32 l with | .ok _=>false | _=>true
inductive Stp where
 | skip (n nl:Nat)
 | tok (k n:Nat)
 | err (e:Nat)
 deriving DecidableEq,Repr
def step (s:List UInt8):Stp:=
 if [47,47].isPrefixOf s then .skip (run (· != 10) s) 0
 else match s with
 | []=>.err 0
 | c :: _=>
   if isBlank c.toNat then .skip 1 (if c.toNat=10 then 1 else 0)
   else if isLetter c.toNat then
     if 32<run isWord s then .err 9 else if keys.contains (s.take (run isWord s)) then .tok 4 (run isWord s) else .tok 1 (run isWord s)
   else if isDigit c.toNat then
     if(c.toNat=48∧1<run isDigit s)∨0<run isLetter (s.drop (run isDigit s)) then .err 9
     else if tooBig (s.take (run isDigit s)) then .err 3 else .tok 2 (run isDigit s)
   else if isOne c.toNat then(if twos.contains (s.take 2) then .tok 3 2 else .tok 3 1)
   else .err 9
structure Tok where
 k:Nat
 s:List UInt8
 l:Nat
 deriving DecidableEq,Repr
inductive Res where
 | toks (l:List Tok)
 | bad (e l:Nat)
 deriving DecidableEq,Repr
inductive Res0 where
 | done (l:List Tok) (n:Nat)
 | bad (e l:Nat)
 deriving DecidableEq,Repr
def lexG:Nat→List UInt8→Nat→List Tok→Res0
 | _,[],l,acc=>.done acc l
 | 0,_ :: _,l,acc=>.done acc l
 | n+1,c :: t,l,acc=>match step (c :: t) with
   | .skip k nl=>lexG n ((c :: t).drop k) (l+nl) acc
   | .tok k m=>lexG n ((c :: t).drop m) l (acc ++ [⟨k,(c :: t).take m,l⟩])
   | .err e=>.bad e l
def Res0.fin:Res0→Res
 | .done l n=>.toks (l ++ [⟨5,[],n⟩])
 | .bad e l=>.bad e l
def lexS (t:List UInt8):Res:=if 32768<t.length then .bad 3 0 else(lexG t.length t 0 []).fin
def Stp.fits (s:List UInt8):Stp→Prop
 | .skip n nl=>0<n∧n≤s.length∧nl≤1
 | .tok k n=>0<n∧n≤s.length∧1≤k∧k≤4
 | .err e=>e=9∨e=3
theorem step_fits (c:UInt8)(t:List UInt8):(step (c :: t)).fits (c :: t):=by
 unfold step
 split
 ·rename_i h
  simp only [List.isPrefixOf,Bool.and_eq_true,beq_iff_eq] at h
  obtain⟨rfl,_⟩:=h
  exact⟨run_pos _ (by decide),run_le _ _,Nat.zero_le _⟩
 ·simp only
  split
  ·exact⟨Nat.one_pos,by simp,by split <;> omega⟩
  ·split
   ·rename_i hl
    have hp:0<run isWord (c :: t):=run_pos _ (by simp [isWord,hl])
    split
    ·exact .inl rfl
    ·split
     ·exact⟨hp,run_le _ _,by omega,by omega⟩
     ·exact⟨hp,run_le _ _,by omega,by omega⟩
   ·split
    ·rename_i hd
     have hp:0<run isDigit (c :: t):=run_pos _ hd
     split
     ·exact .inl rfl
     ·split
      ·exact .inr rfl
      ·exact⟨hp,run_le _ _,by omega,by omega⟩
    ·split
     ·split
      ·rename_i h2
       refine⟨by omega,?_,by omega,by omega⟩
       cases t with
       | nil=>
         exfalso
         simp only [List.take,twos,List.contains_eq_mem,List.mem_cons,List.not_mem_nil,decide_eq_true_eq,List.cons.injEq] at h2
         simp at h2
       | cons d t=>simp
      ·exact⟨by omega,by simp,by omega,by omega⟩
     ·exact .inl rfl
end Go.Abs.YtlkfbfhkcaldlaaGreatDoor
namespace Go.Abs.YtlkfbfhkcaldlaaGreatDoor
def lexR (s:List UInt8)(l:Nat)(acc:List Tok):Res0:=lexG s.length s l acc
theorem lexG_nil (n l:Nat)(acc:List Tok):lexG n [] l acc= .done acc l:=by cases n <;> rfl
theorem lexG_fuel:∀(n m:Nat) (s:List UInt8) (l:Nat) (acc:List Tok),s.length≤n→s.length≤m→lexG n s l acc=lexG m s l acc
 | n,m,[],l,acc,_,_=>by rw [lexG_nil,lexG_nil]
 | 0,_,_ :: _,_,_,h,_=>by simp at h
 | _+1,0,_ :: _,_,_,_,h=>by simp at h
 | n+1,m+1,c :: r,l,acc,h1,h2=>by
   have hf:=step_fits c r
   simp only [List.length_cons] at h1 h2
   simp only [lexG]
   cases hs:step (c :: r) with
   | skip k nl=>
     rw [hs] at hf
     simp only [Stp.fits] at hf
     exact lexG_fuel n m _ _ _ (by simp only [List.length_drop,List.length_cons];omega) (by simp only [List.length_drop,List.length_cons];omega)
   | tok kd k=>
     rw [hs] at hf
     simp only [Stp.fits] at hf
     exact lexG_fuel n m _ _ _ (by simp only [List.length_drop,List.length_cons];omega) (by simp only [List.length_drop,List.length_cons];omega)
   | err e=>rfl
theorem lexR_nil (l:Nat)(acc:List Tok):lexR [] l acc= .done acc l:=rfl
theorem lexR_skip {s:List UInt8} {k nl:Nat} (h:step s= .skip k nl)(hs:s≠[])(l:Nat)(acc:List Tok):lexR s l acc=lexR (s.drop k) (l+nl) acc:=by
 cases s with
 | nil=>exact(hs rfl).elim
 | cons c r=>
   have hf:=step_fits c r
   rw [h] at hf
   simp only [Stp.fits] at hf
   unfold lexR
   simp only [List.length_cons,lexG,h]
   exact lexG_fuel _ _ _ _ _ (by simp only [List.length_drop,List.length_cons];omega) (Nat.le_refl _)
theorem lexR_tok {s:List UInt8} {k m:Nat} (h:step s= .tok k m)(hs:s≠[])(l:Nat)(acc:List Tok):lexR s l acc=lexR (s.drop m) l (acc ++ [⟨k,s.take m,l⟩]):=by
 cases s with
 | nil=>exact(hs rfl).elim
 | cons c r=>
   have hf:=step_fits c r
   rw [h] at hf
   simp only [Stp.fits] at hf
   unfold lexR
   simp only [List.length_cons,lexG,h]
   exact lexG_fuel _ _ _ _ _ (by simp only [List.length_drop,List.length_cons];omega) (Nat.le_refl _)
theorem isBlank_cases {b:UInt8} (h:isBlank b.toNat=true):b=32∨b=9∨b=13∨b=10:=by
 simp only [isBlank,Bool.or_eq_true,beq_iff_eq] at h
 have:b.toNat=32∨b.toNat=9∨b.toNat=13∨b.toNat=10:=by omega
 rcases this with h | h | h | h
 ·exact .inl (UInt8.toNat_inj.1 h)
 ·exact .inr (.inl (UInt8.toNat_inj.1 h))
 ·exact .inr (.inr (.inl (UInt8.toNat_inj.1 h)))
 ·exact .inr (.inr (.inr (UInt8.toNat_inj.1 h)))
theorem twos_blank {b:UInt8} (h:isBlank b.toNat=true)(c:UInt8):twos.contains [c,b]=false:=by
 rcases isBlank_cases h with rfl | rfl | rfl | rfl <;> simp [twos]
theorem isWord_blank {b:UInt8} (h:isBlank b.toNat=true):isWord b.toNat=false∧isDigit b.toNat=false∧isLetter b.toNat=false:=by
 rcases isBlank_cases h with rfl | rfl | rfl | rfl <;> decide
def piece (i:Nat):List UInt8:=if i%2=0 then [10] else [32,47,47,32,114,101,109,97,114,107,10]
theorem lexR_lf (x:List UInt8)(l:Nat)(acc:List Tok):lexR (10 :: x) l acc=lexR x (l+1) acc:=by
 have h:step (10 :: x)= .skip 1 1:=by
  unfold step
  have: [47,47].isPrefixOf (10 :: x)=false:=by simp [List.isPrefixOf]
  rw [this];simp [isBlank]
 rw [lexR_skip h (by simp)];rfl
theorem lexR_bl (b:UInt8)(hb:b=32∨b=9∨b=13)(x:List UInt8)(l:Nat)(acc:List Tok):lexR (b :: x) l acc=lexR x l acc:=by
 have h:step (b :: x)= .skip 1 0:=by
  unfold step
  have: [47,47].isPrefixOf (b :: x)=false:=by rcases hb with rfl | rfl | rfl <;> simp [List.isPrefixOf]
  rw [this]
  rcases hb with rfl | rfl | rfl <;> simp [isBlank]
 rw [lexR_skip h (by simp)];rfl
theorem lexS_R {t:List UInt8} (h:t.length≤32768):lexS t=(lexR t 0 []).fin:=by
 unfold lexS
 rw [if_neg (by omega)];rfl
def Good (k:Nat)(s:List UInt8):Prop:=∃u,u≠[]∧step u= .tok k s.length∧s=u.take s.length
theorem run_take (p:Int→Bool):∀(u:List UInt8) (b:UInt8) (x:List UInt8),p b.toNat=false→run p (u.take (run p u) ++ b :: x)=run p u
 | [],b,x,h=>by simp [run,h]
 | c :: u,b,x,h=>by
   simp only [run]
   split
   ·rename_i hc
    simp only [List.take_succ_cons,List.cons_append,run,hc,if_true]
    rw [run_take p u b x h]
   ·simp [run,h]
theorem good_step {k:Nat} {s:List UInt8} (h:Good k s) {b:UInt8} (hb:isBlank b.toNat=true)(x:List UInt8):step (s ++ b :: x)= .tok k s.length:=by
 obtain⟨w1,w2,w3⟩:=isWord_blank hb
 obtain⟨u,hu,hst,hs⟩:=h
 cases u with
 | nil=>exact(hu rfl).elim
 | cons c r=>
   have hf:=step_fits c r
   rw [hst] at hf
   simp only [Stp.fits] at hf
   obtain⟨s',hs'⟩:∃s',s=c :: s':=by
    cases s with
    | nil=>simp at hf
    | cons d s'=>simp at hs;exact⟨s',by rw [hs.1]⟩
   unfold step at hst
   split at hst
   ·cases hst
   ·rename_i hp
    simp only at hst
    have hlen:s.length=s'.length+1:=by rw [hs'];rfl
    have hp2: [47,47].isPrefixOf (s ++ b :: x)=false:=by
        cases hq: [47,47].isPrefixOf (s ++ b :: x) with
        | false=>rfl
        | true=>
          exfalso
          subst hs'
          cases s' with
          | nil=>
            simp only [List.cons_append,List.nil_append,List.isPrefixOf,Bool.and_eq_true,beq_iff_eq] at hq
            have hb2:=hq.2.1
            rw [←hb2] at hb
            revert hb;decide
          | cons d s''=>
            apply hp
            cases r with
            | nil=>simp at hs
            | cons d' r'=>
              simp only [List.length_cons,List.take_succ_cons,List.cons.injEq] at hs
              obtain⟨_,rfl,_⟩:=hs
              simpa [List.isPrefixOf] using hq
    split at hst
    ·cases hst
    ·rename_i hbl
     split at hst
     ·rename_i hle
      split at hst
      ·cases hst
      ·rename_i h32
       have hm:s.length=run isWord (c :: r):=by
            split at hst <;> (injection hst with _ h2;exact h2.symm)
       rw [hm] at hs
       have e1:run isWord (s ++ b :: x)=run isWord (c :: r):=by rw [hs];exact run_take isWord (c :: r) b x w1
       have e2:(s ++ b :: x).take (run isWord (c :: r))=s:=by rw [←hm];exact List.take_left
       have e3:(c :: r).take (run isWord (c :: r))=s:=hs.symm
       unfold step
       rw [hp2,e1,e2]
       rw [e3] at hst
       subst hs'
       simp only [Bool.false_eq_true,if_false,List.cons_append,hbl,hle,if_true,h32]
       exact hst
     ·rename_i hle
      split at hst
      ·rename_i hdg
       split at hst
       ·cases hst
       ·rename_i hno
        split at hst
        ·cases hst
        ·rename_i hbig
         injection hst with hk hm
         rw [←hm] at hs
         have e1:run isDigit (s ++ b :: x)=run isDigit (c :: r):=by rw [hs];exact run_take isDigit (c :: r) b x w2
         have e2:(s ++ b :: x).take (run isDigit (c :: r))=s:=by rw [hm];exact List.take_left
         have e3:(c :: r).take (run isDigit (c :: r))=s:=hs.symm
         have e4:run isLetter ((s ++ b :: x).drop (run isDigit (c :: r)))=0:=by rw [hm,List.drop_left];simp [run,w3]
         unfold step
         rw [hp2,e1,e2,e4]
         rw [e3] at hbig
         have hno2:¬(c.toNat=48∧1<run isDigit (c :: r)):=fun h=>hno (.inl h)
         subst hs'
         simp only [Bool.false_eq_true,if_false,List.cons_append,hbl,hle,hdg,if_true,hno2,Nat.lt_irrefl,or_self,hbig]
         rw [hk,hm]
      ·rename_i hdg
       split at hst
       ·rename_i hone
        split at hst
        ·rename_i htw
         injection hst with hk hm
         have hs2:s=(c :: r).take 2:=by rw [←hm] at hs;exact hs
         have e2:(s ++ b :: x).take 2=s:=by
                  rw [show 2=s.length from hm];exact List.take_left
         unfold step
         rw [hp2,e2]
         rw [←hs2] at htw
         subst hs'
         simp only [Bool.false_eq_true,if_false,List.cons_append,hbl,hle,hdg,hone,if_true,htw]
         rw [hk,←hm]
        ·rename_i htw
         injection hst with hk hm
         have hs0:s'= []:=List.length_eq_zero_iff.1 (by omega)
         subst hs0
         have e2:(s ++ b :: x).take 2=[c,b]:=by rw [hs'];rfl
         unfold step
         rw [hp2,e2,twos_blank hb]
         subst hs'
         simp only [Bool.false_eq_true,if_false,List.cons_append,List.nil_append,hbl,hle,hdg,hone,if_true]
         rw [hk];rfl
       ·cases hst
theorem lexG_good:∀(n:Nat) (s:List UInt8) (l:Nat) (acc acc':List Tok) (l':Nat),(∀t∈acc,Good t.k t.s)→lexG n s l acc= .done acc' l'→∀t∈acc',Good t.k t.s
 | n,[],l,acc,acc',l',h,hd=>by rw [lexG_nil] at hd;cases hd;exact h
 | 0,c :: r,l,acc,acc',l',h,hd=>by cases hd;exact h
 | n+1,c :: r,l,acc,acc',l',h,hd=>by
   have hf:=step_fits c r
   simp only [lexG] at hd
   cases hs:step (c :: r) with
   | skip k nl=>rw [hs] at hd;exact lexG_good n _ _ _ _ _ h hd
   | tok kd m=>
     rw [hs] at hd hf
     simp only [Stp.fits] at hf
     refine lexG_good n _ _ _ _ _ (fun t ht=>?_) hd
     rcases List.mem_append.1 ht with ht | ht
     ·exact h t ht
     ·obtain rfl:=List.mem_singleton.1 ht
      have hl:((c :: r).take m).length=m:=by rw [List.length_take];omega
      exact⟨c :: r,by simp,by simp only [hl];exact hs,by simp only [hl]⟩
   | err e=>rw [hs] at hd;cases hd
end Go.Abs.YtlkfbfhkcaldlaaGreatDoor
namespace Go.Abs.YtlkfbfhkcaldlaaGreatDoor
open Go.Proofs
def BO (n:Nat)(cs:List AV)(r:Option (AV×St)):Bool:=match r with
 | some (.sl o g off m z,s)=>Nat.beq off 0 && Nat.beq m n && Nat.beq z 1 && (match s[o]? with
   | some ⟨g',ro,.cells e cs'⟩=>Nat.beq g g' && !ro && Nat.beq e 9 && AV.eqvs cs' cs
   | _=>false)
 | _=>false
theorem Ah {X:Ctx} {k f:Nat} {args:List AV} {σ:St} {n:Nat} {cs:List AV} (h:BO n cs (aFn X k f args σ)=true):ay X f args σ fun a s=>∃o g,a= .sl o g 0 n 1∧s[o]? =some ⟨g,false,.cells 9 cs⟩:=by
 unfold BO at h
 split at h
 ·rename_i o g off m z s hr
  simp only [Bool.and_eq_true] at h
  obtain⟨⟨⟨h1,h2⟩,h3⟩,h4⟩:=h
  split at h4
  ·rename_i g' ro e cs' ho
   simp only [Bool.and_eq_true,Bool.not_eq_true'] at h4
   obtain⟨⟨⟨q1,q2⟩,q3⟩,q4⟩:=h4
   refine⟨⟨k,_,hr,o,g,?_,?_⟩⟩
   ·rw [Nat.eq_of_beq_eq_true h1,Nat.eq_of_beq_eq_true h2,Nat.eq_of_beq_eq_true h3]
   ·simp only;rw [ho,Nat.eq_of_beq_eq_true q1,q2,Nat.eq_of_beq_eq_true q3,AV.iE _ _ q4]
  ·cases h4
 ·cases h
def Em:BN X0 10 G0 where
 f:=7
 v:=.b true
 flat:=rfl
 does:=fun μ w hs=>by
    have h:=JD
    rw [Option.map_eq_some_iff] at h
    obtain⟨⟨r,s⟩,h1,h2⟩:=h
    have h3:wM XK 7 [] G0 fun a _=>a= .b true:=⟨1000,(r,s),h1,h2⟩
    exact h3.does NC hs (aP:=#[]) rfl
@[reducible] noncomputable def XW:Ctx:=X0.ran Em
theorem ND:XW.Sound 10:=Ctx.JB xW Jv _
def nM:List UInt8:=[102,117,110,99,32,118,97,114,32,112,116,114,32,105,102,32,101,108,115,101,32,119,104,105,108,101,32,111,117,116,32,102,114,101,101,32,100,114,97,105,110,32,114,101,116,117,114,110,32,110,101,119,32,105,110]
def nN:List UInt8:=[124,124,32,38,38,32,61,61,32,33,61,32,60,61,32,62,61,32,60,60,32,62,62]
theorem En:BO 12 (keys.map .s) (aFn XW 1000 85 [.s nM] G0)=true:=by kernel_rfl
theorem Eo:BO 8 (twos.map .s) (aFn XW 1000 85 [.s nN] G0)=true:=by kernel_rfl
theorem Iz (n z e:Nat)(cs:List AV):Ae.Good ⟨fun o g=>.sl o g 0 n z,e,cs⟩:=by
 intro lQ A8 w o g N v h hv
 obtain⟨b,δ,off',c,e',m,h1,h2⟩:=hv
 exact⟨b,δ,off',c,e',m,by rw [h];exact h1,h2⟩
def rF:List AV→Option MR
 | [.s t]=>if t=nM then some (.new ⟨fun o g=>.sl o g 0 12 1,9,keys.map .s⟩) else if t=nN then some (.new ⟨fun o g=>.sl o g 0 8 1,9,twos.map .s⟩) else none
 | _=>none
def iU:Ee XW G0 where
 f:=85
 g:=rF
 okF:=by
    intro args v h
    unfold rF at h
    split at h
    ·split at h
     ·cases h
     ·split at h <;> cases h
    ·cases h
 okN:=by
    intro args R h
    unfold rF at h
    split at h
    ·split at h
     ·rename_i ht;subst ht;cases h
      exact⟨rfl,rfl,Iz _ _ _ _,Ah En⟩
     ·split at h
      ·rename_i ht;subst ht;cases h
       exact⟨rfl,rfl,Iz _ _ _ _,Ah Eo⟩
      ·cases h
    ·cases h
@[reducible] noncomputable def X:Ctx:=XW.makes G0 iU
theorem QY:X.Sound 10:=Ctx.Ef ND Jv _
theorem BP:iU.g [.s nM]=some (.new ⟨fun o g=>.sl o g 0 12 1,9,keys.map .s⟩):=by
 unfold iU
 simp only [rF,if_true]
theorem BQ:iU.g [.s nN]=some (.new ⟨fun o g=>.sl o g 0 8 1,9,twos.map .s⟩):=by
 have h:nN≠nM:=by decide
 unfold iU
 simp only [rF,if_neg h,if_true]
theorem yc (σ:St)(Q:AV→St→Prop)(ht:σ.take G0.length=G0)(q:Q (.sl σ.length 1 0 12 1) (gW 9 (keys.map .s) σ)):ay X 85 [.s nM] σ Q:=
 ay.Td iU rfl (R:=⟨fun o g=>.sl o g 0 12 1,9,keys.map .s⟩) BP ht q
theorem yg (σ:St)(Q:AV→St→Prop)(ht:σ.take G0.length=G0)(q:Q (.sl σ.length 1 0 8 1) (gW 9 (twos.map .s) σ)):ay X 85 [.s nN] σ Q:=
 ay.Td iU rfl (R:=⟨fun o g=>.sl o g 0 8 1,9,twos.map .s⟩) BQ ht q
theorem NG (σ:St)(ht:σ.take G0.length=G0) {Q:AV→St→Prop} (q:Q (.b true) σ):ay X 7 [] σ Q:=by
 constructor
 rw [jf (g:=Em.run) (by rfl)]
 refine⟨(.b true,σ),?_,q⟩
 unfold BN.run
 simp only
 rw [if_pos (by rw [ht];exact lN _)]
 rfl
end Go.Abs.YtlkfbfhkcaldlaaGreatDoor
