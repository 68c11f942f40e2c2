/- Texts of this claim, joined: Xa. -/
import Derived.Test.YtlkfbfhkcaldlaaGreatDoorM23
import Derived.Test.YtlkfbfhkcaldlaaGreatDoorM22
import Derived.Test.YtlkfbfhkcaldlaaGreatDoorM07
set_option linter.unusedVariables false
set_option linter.unusedSimpArgs false
namespace Go.Abs.YtlkfbfhkcaldlaaGreatDoor
open Go.Proofs
set_option maxRecDepth 4000
abbrev StrF (f:Nat)(args:List AV)(Z:St)(txt:List UInt8):Prop:=au X f args Z fun v s=>v= .s txt/\s=Z
def XLaw (Z:St)(t:Tr):Prop:=∀{S:Nat->Prop} {v:AV} (c:Nat),bP S Z v t->StrF 76 [v,.i .i64 c] Z (lF t c)
theorem aau {t:Tr} (h:WT t)(c:Nat):(lF t c).length<=50*nT t:=by rw [<-JK];exact qw h c
theorem prA_len2 {a:jA} (h:OI a)(b:Bool):(Ce a b).length<=50*Jw a:=by rw [<-txA];exact lenA h b
section
variable {Z:St}
theorem bindsR_to (s:List UInt8):au X 105 [.s s] Z fun v s'=>v= .i .i64 (aF s)/\s'= Z:=binds_to s Z
theorem x_num {n ln:Nat} {nm tx:List UInt8} {l r:Tr} {ar:jA} (hn:n<4294967296):XLaw Z (.ex 1 n nm tx l r ar ln):=by
 intro S v c hv
 obtain⟨ox,gx,L,R,Ax,hs,rfl,hx,_⟩:=hv
 rw [lF,if_pos rfl]
 refine au.body (F:=F76) ay (lit:=false) rfl rfl (aU rfl) ?_
 conv=>whnf
 refine ak (aj (T:=fF) rfl rfl (ah (hx)) rfl) ?_
 conv=>whnf
 refine ak (aj (T:=wE) rfl rfl (ah (hx)) rfl) ?_
 conv=>whnf
 refine⟨n,wrap_u32 hn,?_⟩
 conv=>whnf
 refine au.fM (g:=UM) (v:=.s (Lib.decDigits n)) (Z':=Z) rfl ?_ ?_
 ·simp only [UM]
  rw [if_pos ⟨by omega,by omega⟩,Int.toNat_natCast]
 conv=>whnf
 exact Fin.flat rfl iq ⟨rfl,rfl⟩
theorem x_name {n ln:Nat} {nm tx:List UInt8} {l r:Tr} {ar:jA} :XLaw Z (.ex 2 n nm tx l r ar ln):=by
 intro S v c hv
 obtain⟨ox,gx,L,R,Ax,hs,rfl,hx,_⟩:=hv
 rw [lF,if_neg (by decide),if_pos rfl]
 refine au.body (F:=F76) ay (lit:=false) rfl rfl (aU rfl) ?_
 conv=>whnf
 refine ak (aj (T:=fF) rfl rfl (ah (hx)) rfl) ?_
 conv=>whnf
 refine ak (aj (T:=fB) rfl rfl (ah (hx)) rfl) ?_
 conv=>whnf
 exact Fin.flat rfl iq ⟨rfl,rfl⟩
theorem x_in {n ln:Nat} {nm tx:List UInt8} {l r:Tr} {ar:jA} :XLaw Z (.ex 8 n nm tx l r ar ln):=by
 intro S v c hv
 obtain⟨ox,gx,L,R,Ax,hs,rfl,hx,_⟩:=hv
 rw [lF,if_neg (by decide),if_neg (by decide),if_neg (by decide),if_neg (by decide),if_neg (by decide),if_neg (by decide),if_pos rfl]
 refine au.body (F:=F76) ay (lit:=false) rfl rfl (aU rfl) ?_
 conv=>whnf
 refine ak (aj (T:=fF) rfl rfl (ah (hx)) rfl) ?_
 conv=>whnf
 exact Fin.flat rfl iq ⟨rfl,rfl⟩
theorem x_new {n ln:Nat} {nm tx:List UInt8} {l r:Tr} {ar:jA} (hw:WT l)(hn:nT l<=1000000)(il:XLaw Z l):XLaw Z (.ex 7 n nm tx l r ar ln):=by
 intro S v c hv
 obtain⟨ox,gx,L,R,Ax,hs,rfl,hx,hL,_⟩:=hv
 have hl:=aau hw 1
 obtain⟨oL,gL,rfl⟩:=hL.ptr hw
 rw [lF,if_neg (by decide),if_neg (by decide),if_neg (by decide),if_neg (by decide),if_neg (by decide),if_pos rfl]
 refine au.body (F:=F76) ay (lit:=false) rfl rfl (aU rfl) ?_
 conv=>whnf
 refine ak (aj (T:=fF) rfl rfl (ah (hx)) rfl) ?_
 conv=>whnf
 refine ak (aj (T:=aW) rfl rfl (ah (hx)) rfl) ?_
 conv=>whnf
 refine au.to (il 1 hL) ?_
 conv=>whnf
 refine⟨by(try simp only [bM,bg,bZ]);omega,?_⟩
 conv=>whnf
 refine⟨by(try simp only [bM,bg,bZ]);omega,?_⟩
 conv=>whnf
 exact Fin.flat rfl iq ⟨by simp,rfl⟩
set_option maxHeartbeats 2000000 in
theorem x_cell {n ln:Nat} {nm tx:List UInt8} {l r:Tr} {ar:jA} (hw1:WT l)(hw2:WT r)(hn1:nT l<=1000000)(hn2:nT r<=1000000)(il:XLaw Z l)(ir:XLaw Z r):XLaw Z (.ex 5 n nm tx l r ar ln):=by
 intro S v c hv
 obtain⟨ox,gx,L,R,Ax,hs,rfl,hx,hL,hR,_⟩:=hv
 have hl1:=aau hw1 8
 have hl2:=aau hw2 1
 obtain⟨oL,gL,rfl⟩:=hL.ptr hw1
 obtain⟨oR,gR,rfl⟩:=hR.ptr hw2
 rw [lF,if_neg (by decide),if_neg (by decide),if_neg (by decide),if_pos rfl]
 refine au.body (F:=F76) ay (lit:=false) rfl rfl (aU rfl) ?_
 conv=>whnf
 refine ak (aj (T:=fF) rfl rfl (ah (hx)) rfl) ?_
 conv=>whnf
 refine ak (aj (T:=aW) rfl rfl (ah (hx)) rfl) ?_
 conv=>whnf
 refine ak (aj (T:=aW) rfl rfl (ah (hx)) rfl) ?_
 conv=>whnf
 refine au.to (il 8 hL) ?_
 conv=>whnf
 refine⟨?_,?_⟩
 ·conv=>whnf
  refine ak (aj (T:=aW) rfl rfl (ah (hx)) rfl) ?_
  rfl
 ·conv=>whnf
  refine⟨by(try simp only [bM,bg,bZ]);omega,?_⟩
  conv=>whnf
  refine au.to (ir 1 hR) ?_
  conv=>whnf
  refine⟨by(try simp only [bM,bg,bZ]);omega,?_⟩
  conv=>whnf
  refine⟨by(try simp only [bM,bg,bZ]);omega,?_⟩
  conv=>whnf
  exact Fin.flat rfl iq ⟨by simp,rfl⟩
set_option maxHeartbeats 2000000 in
theorem x_link {n ln:Nat} {nm tx:List UInt8} {l r:Tr} {ar:jA} (hw1:WT l)(hw2:WT r)(hn1:nT l<=1000000)(hn2:nT r<=1000000)(il:XLaw Z l)(ir:XLaw Z r):XLaw Z (.ex 6 n nm tx l r ar ln):=by
 intro S v c hv
 obtain⟨ox,gx,L,R,Ax,hs,rfl,hx,hL,hR,_⟩:=hv
 have hl1:=aau hw1 8
 have hl2:=aau hw2 1
 have hl3:=aau hw2 8
 obtain⟨oL,gL,rfl⟩:=hL.ptr hw1
 rw [lF,if_neg (by decide),if_neg (by decide),if_neg (by decide),if_neg (by decide),if_pos rfl]
 cases r with
 | nil=>cases hw2
 | ex kr nr nmr txr lr rr arr lnr=>
   have hRR:=hR
   obtain⟨oy,gy,Ly,Ry,Ay,hsy,rfl,hy,_⟩:=hRR
   have wide:qM (.ex kr nr nmr txr lr rr arr lnr)=(kr == 1 || kr == 2):=rfl
   by_cases h1:kr=1
   ·rw [if_pos (show qM (.ex kr nr nmr txr lr rr arr lnr)=true from by rw [wide];simp [h1])]
    refine au.body (F:=F76) ay (lit:=false) rfl rfl (aU rfl) ?_
    conv=>whnf
    refine ak (aj (T:=fF) rfl rfl (ah (hx)) rfl) ?_
    conv=>whnf
    refine ak (aj (T:=aW) rfl rfl (ah (hx)) rfl) ?_
    conv=>whnf
    refine ak (aj (T:=fF) rfl rfl (ah (hy)) rfl) ?_
    conv=>whnf
    rw [show decide ((kr:Int)=1)=true from decide_eq_true (by omega)]
    conv=>whnf
    refine ak (aj (T:=aW) rfl rfl (ah (hx)) rfl) ?_
    conv=>whnf
    refine au.to (il 8 hL) ?_
    conv=>whnf
    refine⟨by(try simp only [bM,bg,bZ]);omega,?_⟩
    conv=>whnf
    refine au.to (ir 8 hR) ?_
    conv=>whnf
    refine⟨by(try simp only [bM,bg,bZ]);omega,?_⟩
    conv=>whnf
    exact Fin.flat rfl iq ⟨by simp,rfl⟩
   ·by_cases h2:kr=2
    ·rw [if_pos (show qM (.ex kr nr nmr txr lr rr arr lnr)=true from by rw [wide];simp [h2])]
     refine au.body (F:=F76) ay (lit:=false) rfl rfl (aU rfl) ?_
     conv=>whnf
     refine ak (aj (T:=fF) rfl rfl (ah (hx)) rfl) ?_
     conv=>whnf
     refine ak (aj (T:=aW) rfl rfl (ah (hx)) rfl) ?_
     conv=>whnf
     refine ak (aj (T:=fF) rfl rfl (ah (hy)) rfl) ?_
     conv=>whnf
     rw [show decide ((kr:Int)=1)=false from decide_eq_false (by omega)]
     conv=>whnf
     refine ak (aj (T:=fF) rfl rfl (ah (hy)) rfl) ?_
     conv=>whnf
     rw [show decide ((kr:Int)=2)=true from decide_eq_true (by omega)]
     conv=>whnf
     refine ak (aj (T:=aW) rfl rfl (ah (hx)) rfl) ?_
     conv=>whnf
     refine au.to (il 8 hL) ?_
     conv=>whnf
     refine⟨by(try simp only [bM,bg,bZ]);omega,?_⟩
     conv=>whnf
     refine au.to (ir 8 hR) ?_
     conv=>whnf
     refine⟨by(try simp only [bM,bg,bZ]);omega,?_⟩
     conv=>whnf
     exact Fin.flat rfl iq ⟨by simp,rfl⟩
    ·rw [if_neg (show ¬qM (.ex kr nr nmr txr lr rr arr lnr)=true from by rw [wide];simp [h1,h2])]
     refine au.body (F:=F76) ay (lit:=false) rfl rfl (aU rfl) ?_
     conv=>whnf
     refine ak (aj (T:=fF) rfl rfl (ah (hx)) rfl) ?_
     conv=>whnf
     refine ak (aj (T:=aW) rfl rfl (ah (hx)) rfl) ?_
     conv=>whnf
     refine ak (aj (T:=fF) rfl rfl (ah (hy)) rfl) ?_
     conv=>whnf
     rw [show decide ((kr:Int)=1)=false from decide_eq_false (by omega)]
     conv=>whnf
     refine ak (aj (T:=fF) rfl rfl (ah (hy)) rfl) ?_
     conv=>whnf
     rw [show decide ((kr:Int)=2)=false from decide_eq_false (by omega)]
     conv=>whnf
     refine ak (aj (T:=aW) rfl rfl (ah (hx)) rfl) ?_
     conv=>whnf
     refine au.to (il 8 hL) ?_
     conv=>whnf
     refine⟨by(try simp only [bM,bg,bZ]);omega,?_⟩
     conv=>whnf
     refine au.to (ir 1 hR) ?_
     conv=>whnf
     refine⟨by(try simp only [bM,bg,bZ]);omega,?_⟩
     conv=>whnf
     refine⟨by(try simp only [bM,bg,bZ]);omega,?_⟩
     conv=>whnf
     exact Fin.flat rfl iq ⟨by simp,rfl⟩
set_option maxHeartbeats 2000000 in
theorem x_un {n ln:Nat} {nm tx:List UInt8} {r:Tr} {ar:jA} (htx:tx.length<=2)(hw:WT r)(hn:nT r<=1000000)(ir:XLaw Z r):XLaw Z (.ex 3 n nm tx .nil r ar ln):=by
 intro S v c hv
 obtain⟨ox,gx,L,R,Ax,hs,rfl,hx,hL,hR,_⟩:=hv
 have hl:=aau hw 7
 obtain rfl:L= .p0:=hL
 obtain⟨oR,gR,rfl⟩:=hR.ptr hw
 rw [lF,if_neg (by decide),if_neg (by decide),if_neg (by decide),if_neg (by decide),if_neg (by decide),if_neg (by decide),if_neg (by decide),if_pos (show isNil .nil=true from rfl)]
 refine au.body (F:=F76) ay (lit:=false) rfl rfl (aU rfl) ?_
 conv=>whnf
 refine ak (aj (T:=fF) rfl rfl (ah (hx)) rfl) ?_
 conv=>whnf
 refine ak (aj (T:=fB) rfl rfl (ah (hx)) rfl) ?_
 conv=>whnf
 refine ak (aj (T:=aW) rfl rfl (ah (hx)) rfl) ?_
 conv=>whnf
 refine au.to (ir 7 hR) ?_
 conv=>whnf
 refine⟨?_,?_⟩
 ·conv=>whnf
  refine ak (aj (T:=fB) rfl rfl (ah (hx)) rfl) ?_
  rfl
 ·conv=>whnf
  refine⟨by(try simp only [bM,bg,bZ]);omega,?_⟩
  conv=>whnf
  refine ak (aj (T:=aW) rfl rfl (ah (hx)) rfl) ?_
  conv=>whnf
  by_cases hc:7<c
  ·rw [show decide ((7:Int)<(c:Int))=true from decide_eq_true (by omega)]
   conv=>whnf
   refine⟨by(try simp only [bM,bg,bZ]);omega,?_⟩
   conv=>whnf
   refine⟨by(try simp only [bM,bg,bZ]);omega,?_⟩
   conv=>whnf
   exact Fin.flat rfl iq ⟨by simp [Fe,hc],rfl⟩
  ·rw [show decide ((7:Int)<(c:Int))=false from decide_eq_false (by omega)]
   conv=>whnf
   exact Fin.flat rfl iq ⟨by simp [Fe,hc],rfl⟩
set_option maxHeartbeats 2000000 in
theorem x_bin {n ln:Nat} {nm tx:List UInt8} {l r:Tr} {ar:jA} (htx:tx.length<=2)(hw1:WT l)(hw2:WT r)(hn1:nT l<=1000000)(hn2:nT r<=1000000)(il:XLaw Z l)(ir:XLaw Z r):XLaw Z (.ex 3 n nm tx l r ar ln):=by
 intro S v c hv
 obtain⟨ox,gx,L,R,Ax,hs,rfl,hx,hL,hR,_⟩:=hv
 have hl1:=aau hw1 (aF tx)
 have hl2:=aau hw2 (aF tx+1)
 have hl3:=aau hw2 7
 have hb6:=qN tx
 obtain⟨oL,gL,rfl⟩:=hL.ptr hw1
 obtain⟨oR,gR,rfl⟩:=hR.ptr hw2
 rw [lF,if_neg (by decide),if_neg (by decide),if_neg (by decide),if_neg (by decide),if_neg (by decide),if_neg (by decide),if_neg (by decide),if_neg (show ¬isNil l=true from by rw [hw1.nn];decide)]
 refine au.body (F:=F76) ay (lit:=false) rfl rfl (aU rfl) ?_
 conv=>whnf
 refine ak (aj (T:=fF) rfl rfl (ah (hx)) rfl) ?_
 conv=>whnf
 refine ak (aj (T:=fB) rfl rfl (ah (hx)) rfl) ?_
 conv=>whnf
 refine ak (aj (T:=aW) rfl rfl (ah (hx)) rfl) ?_
 conv=>whnf
 refine au.to (ir 7 hR) ?_
 conv=>whnf
 refine⟨?_,?_⟩
 ·conv=>whnf
  refine ak (aj (T:=fB) rfl rfl (ah (hx)) rfl) ?_
  rfl
 ·conv=>whnf
  refine⟨by(try simp only [bM,bg,bZ]);omega,?_⟩
  conv=>whnf
  refine ak (aj (T:=aW) rfl rfl (ah (hx)) rfl) ?_
  conv=>whnf
  refine ak (aj (T:=fB) rfl rfl (ah (hx)) rfl) ?_
  conv=>whnf
  refine au.to (bindsR_to tx) ?_
  conv=>whnf
  refine ak (aj (T:=aW) rfl rfl (ah (hx)) rfl) ?_
  conv=>whnf
  refine ak (aj (T:=fB) rfl rfl (ah (hx)) rfl) ?_
  conv=>whnf
  refine ak (aj (T:=aW) rfl rfl (ah (hx)) rfl) ?_
  conv=>whnf
  refine⟨((aF tx+1:Nat):Int),by rw [wrap_i64 (by omega) (by omega)];omega,?_⟩
  conv=>whnf
  refine au.to (il (aF tx) hL) ?_
  conv=>whnf
  refine⟨?_,?_⟩
  ·conv=>whnf
   refine ak (aj (T:=fB) rfl rfl (ah (hx)) rfl) ?_
   rfl
  ·conv=>whnf
   refine⟨?_,?_⟩
   ·conv=>whnf
    refine ak (aj (T:=aW) rfl rfl (ah (hx)) rfl) ?_
    rfl
   ·conv=>whnf
    refine⟨by(try simp only [bM,bg,bZ]);omega,?_⟩
    conv=>whnf
    refine⟨by(try simp only [bM,bg,bZ]);omega,?_⟩
    conv=>whnf
    refine⟨by(try simp only [bM,bg,bZ]);omega,?_⟩
    conv=>whnf
    refine au.to (ir (aF tx+1) hR) ?_
    conv=>whnf
    refine⟨?_,?_⟩
    ·conv=>whnf
     refine ak (aj (T:=fB) rfl rfl (ah (hx)) rfl) ?_
     rfl
    ·conv=>whnf
     refine⟨by(try simp only [bM,bg,bZ]);omega,?_⟩
     conv=>whnf
     by_cases hc:aF tx<c
     ·rw [show decide ((aF tx:Int)<(c:Int))=true from decide_eq_true (by omega)]
      conv=>whnf
      refine⟨by(try simp only [bM,bg,bZ]);omega,?_⟩
      conv=>whnf
      refine⟨by(try simp only [bM,bg,bZ]);omega,?_⟩
      conv=>whnf
      exact Fin.flat rfl iq ⟨by simp [Fe,hc],rfl⟩
     ·rw [show decide ((aF tx:Int)<(c:Int))=false from decide_eq_false (by omega)]
      conv=>whnf
      exact Fin.flat rfl iq ⟨by simp [Fe,hc],rfl⟩
end
end Go.Abs.YtlkfbfhkcaldlaaGreatDoor
