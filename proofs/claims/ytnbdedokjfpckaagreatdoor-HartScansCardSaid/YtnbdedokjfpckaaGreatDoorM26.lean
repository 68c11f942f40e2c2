/- Texts of this claim, joined: Tk, Tl, Tm, Tn. -/
import Derived.Test.YtnbdedokjfpckaaGreatDoorM25
set_option linter.unusedVariables false
set_option linter.unusedSimpArgs false
namespace Go.cO.YtnbdedokjfpckaaGreatDoor
open Go.Proofs Go.RowKit
set_option maxRecDepth 100000
theorem fdiv_pow (x i:Nat):((x:Int)).fdiv (2^i)=((x / 2^i:Nat):Int):=by
 rw [show ((2:Int)^i)=((2^i:Nat):Int) by simp,Int.fdiv_eq_ediv_of_nonneg _ (Int.natCast_nonneg _)]
 rfl
theorem aam (x:Nat)(hx:x<2^64):((BitVec.ofInt 64 (x:Int) &&& BitVec.ofInt 64 1).toNat:Int)=((x%2:Nat):Int):=by
 rw [show BitVec.ofInt 64 (x:Int)=BitVec.ofNat 64 x by simp,show BitVec.ofInt 64 1=BitVec.ofNat 64 1 by decide,BitVec.toNat_and]
 simp only [BitVec.toNat_ofNat]
 rw [Nat.mod_eq_of_lt hx,show 1%2^64=1 by decide,Nat.and_one_is_mod]
theorem Kq (x:Nat)(hx:x<2^16):((BitVec.ofInt 16 (x:Int) &&& BitVec.ofInt 16 1).toNat:Int)=((x%2:Nat):Int):=by
 rw [show BitVec.ofInt 16 (x:Int)=BitVec.ofNat 16 x by simp,show BitVec.ofInt 16 1=BitVec.ofNat 16 1 by decide,BitVec.toNat_and]
 simp only [BitVec.toNat_ofNat]
 rw [Nat.mod_eq_of_lt hx,show 1%2^16=1 by decide,Nat.and_one_is_mod]
theorem uQ (w i:Nat):w.testBit i=decide (w / 2^i%2=1):=by
 rw [Nat.testBit_eq_decide_div_mod_eq]
theorem gJ {w i:Nat} (hw:w<65536)(hi:i<64):bU (w:Int) i=w.testBit i:=by
 unfold bU
 have h1:w / 2^i<2^64:=Nat.lt_of_le_of_lt (Nat.div_le_self _ _) (by omega)
 rw [Nat.min_eq_left (by omega),fdiv_pow,aam _ h1,wrap_u64 (by omega) (by omega),uQ]
 exact decide_eq_decide.2 (by omega)
theorem ch_ix (i:Nat)(hi:i<16):(((1024+16*i:Nat):Int) / 16%64).toNat=i:=by omega
theorem GH (i:Nat):((2:Int)^i)=((2^i:Nat):Int):=by simp
theorem pow_lt {i:Nat} (hi:i<16):2^i<65536:=Nat.pow_lt_pow_right (by decide) hi
theorem UU {w i:Nat} (hi:i<16):LD ((w%2^i:Nat):Int) ((1024+16*i:Nat):Int)=false:=by
 unfold LD
 rw [ch_ix i hi,GH,show ((w%2^i:Nat):Int) / ((2^i:Nat):Int)=((w%2^i / 2^i:Nat):Int) from rfl,Nat.div_eq_of_lt (Nat.mod_lt _ (Nat.two_pow_pos i))]
 decide
theorem MQ {w i:Nat} (hi:i<16):BM ((w%2^i:Nat):Int) ((1024+16*i:Nat):Int)=((w%2^i+2^i:Nat):Int):=by
 have h2:=pow_lt hi
 have h3:w%2^i<2^i:=Nat.mod_lt _ (Nat.two_pow_pos i)
 have h4:=Nat.two_pow_add_eq_or_of_lt h3 1
 unfold BM
 rw [ch_ix i hi,GH,wrap_u64 (by omega) (by omega)]
 show IntKind.u64.wrap ((BitVec.ofInt 64 ((w%2^i:Nat):Int) ||| BitVec.ofInt 64 ((2^i:Nat):Int)).toNat:Int)=_
 rw [show BitVec.ofInt 64 ((w%2^i:Nat):Int)=BitVec.ofNat 64 (w%2^i) from BitVec.ofInt_natCast ..,show BitVec.ofInt 64 ((2^i:Nat):Int)=BitVec.ofNat 64 (2^i) from BitVec.ofInt_natCast ..,BitVec.toNat_or]
 simp only [BitVec.toNat_ofNat]
 rw [Nat.mod_eq_of_lt (a:=w%2^i) (by omega),Nat.mod_eq_of_lt (a:=2^i) (by omega),Nat.or_comm,show 2^i ||| w%2^i=w%2^i+2^i by rw [Nat.mul_one] at h4;rw [←h4];omega,wrap_u64 (by omega) (by omega)]
theorem GI (w i:Nat):w%2^(i+1)=w%2^i+(w.testBit i).toNat*2^i:=by
 rw [Nat.mod_pow_succ,uQ]
 rcases Nat.mod_two_eq_zero_or_one (w / 2^i) with h | h
 ·rw [h];simp
 ·rw [h];simp
def cnt (w:Nat):Nat→Nat
 | 0=>0
 | i+1=>cnt w i+(bif Nat.blt i 12 then(w.testBit i).toNat else 0)
theorem cnt_le (w:Nat):∀i,cnt w i≤i
 | 0=>Nat.le_refl _
 | i+1=>by
   have h:=cnt_le w i
   have h2:(w.testBit i).toNat≤1:=Bool.toNat_le _
   unfold cnt
   cases Nat.blt i 12
   ·simp only [cond_false];omega
   ·simp only [cond_true];omega
theorem aan (b:Bool) {n:Nat} (h:n<1000):rZ b (n:Int)=((n+b.toNat:Nat):Int):=by
 cases b
 ·rfl
 ·show IntKind.i64.wrap ((n:Int)+1)=_
  rw [wrap_i64 (by omega) (by omega)];rfl
theorem GK:∀(l:List Bool),l.length<1000→l.foldr rZ 0=(((l.map Bool.toNat).sum:Nat):Int)∧(l.map Bool.toNat).sum≤l.length
 | [],_=>⟨rfl,Nat.le_refl _⟩
 | b :: l,h=>by
   simp only [List.length_cons] at h
   obtain⟨h1,h2⟩:=GK l (by omega)
   have h3:b.toNat≤1:=Bool.toNat_le _
   simp only [List.foldr_cons,List.map_cons,List.sum_cons,List.length_cons]
   rw [h1,aan b (by omega)]
   exact⟨by omega,by omega⟩
theorem k1_nat {w:Nat} (hw:w<65536):IntKind.i64.wrap (k1 (w:Int)+0)=((cnt w 16+w%2:Nat):Int):=by
 have h:k1 (w:Int)=[bU 0 0,bU w 11,bU w 10,bU w 9,bU w 8,bU w 7,bU w 6,bU w 5,bU w 4,bU w 3,bU w 2,bU w 1,bU w 0,bU w 0].foldr rZ 0:=rfl
 obtain⟨h1,h2⟩:=GK [bU 0 0,bU w 11,bU w 10,bU w 9,bU w 8,bU w 7,bU w 6,bU w 5,bU w 4,bU w 3,bU w 2,bU w 1,bU w 0,bU w 0] (by simp)
 rw [h,h1,wrap_i64 (by omega) (by simp only [List.length_cons,List.length_nil] at h2;omega)]
 have h0:bU 0 0=false:=by decide
 have hb:w%2=(w.testBit 0).toNat:=by
  rw [uQ,Nat.pow_zero,Nat.div_one]
  rcases Nat.mod_two_eq_zero_or_one w with h | h <;> rw [h] <;> rfl
 have hc:cnt w 16=(w.testBit 0).toNat+(w.testBit 1).toNat+(w.testBit 2).toNat+(w.testBit 3).toNat+(w.testBit 4).toNat+(w.testBit 5).toNat+(w.testBit 6).toNat+(w.testBit 7).toNat+(w.testBit 8).toNat+(w.testBit 9).toNat+(w.testBit 10).toNat+(w.testBit 11).toNat:=by
  show (0+(w.testBit 0).toNat+(w.testBit 1).toNat+(w.testBit 2).toNat+(w.testBit 3).toNat+(w.testBit 4).toNat+(w.testBit 5).toNat+(w.testBit 6).toNat+(w.testBit 7).toNat+(w.testBit 8).toNat+(w.testBit 9).toNat+(w.testBit 10).toNat+(w.testBit 11).toNat+0+0+0+0)=_
  omega
 simp only [List.map_cons,List.map_nil,List.sum_cons,List.sum_nil,h0,gJ hw (show 0<64 by omega),gJ hw (show 1<64 by omega),gJ hw (show 2<64 by omega),gJ hw (show 3<64 by omega),gJ hw (show 4<64 by omega),gJ hw (show 5<64 by omega),
  gJ hw (show 6<64 by omega),gJ hw (show 7<64 by omega),gJ hw (show 8<64 by omega),gJ hw (show 9<64 by omega),gJ hw (show 10<64 by omega),gJ hw (show 11<64 by omega),hb,hc,Bool.toNat_false]
 omega
theorem k2_nat (m:Int):IntKind.i64.wrap (k2 m+0)=0:=by
 have hb:∀b:Bool,(!b && b)=false:=by decide
 unfold k2
 simp only [hb]
 decide
theorem UW {w i:Nat} (hw:w<65536)(hi:i<16):IntKind.u16.wrap ((BitVec.ofInt IntKind.u16.bits ((w:Int).fdiv (2^min ((i:Int)).toNat IntKind.u16.bits)) &&& BitVec.ofInt IntKind.u16.bits 1).toNat:Int)=((w / 2^i%2:Nat):Int):=by
 rw [show min ((i:Int)).toNat IntKind.u16.bits=i by show min i 16=i;omega,fdiv_pow]
 have h1:w / 2^i<2^16:=Nat.lt_of_le_of_lt (Nat.div_le_self _ _) (by omega)
 show IntKind.u16.wrap ((BitVec.ofInt 16 ((w / 2^i:Nat):Int) &&& BitVec.ofInt 16 1).toNat:Int)=_
 rw [Kq _ h1,wrap_u16 (by omega) (by omega)]
theorem bit_1 {w i:Nat} (h:w.testBit i=true):w / 2^i%2=1:=by rw [uQ] at h;exact of_decide_eq_true h
theorem bit_0 {w i:Nat} (h:w.testBit i=false):w / 2^i%2=0:=by rw [uQ] at h;have:=of_decide_eq_false h;omega
end Go.cO.YtnbdedokjfpckaaGreatDoor
namespace Go.cO.YtnbdedokjfpckaaGreatDoor
open Go.Proofs
set_option maxRecDepth 1000000
theorem add_at (s t m:Int) {i:Nat} (hi:i<16):UH [.p 59 0 0,.ag [.i .u32 ((1024+16*i:Nat):Int),.i .u32 16]] (S1 s t m)=(vF (.i .u64 m) ((1024+16*i:Nat):Int)).bind fun z=>some (.b true,S1 s t z):=by
 obtain rfl | rfl | rfl | rfl | rfl | rfl | rfl | rfl | rfl | rfl | rfl | rfl | rfl | rfl | rfl | rfl:i=0∨i=1∨i=2∨i=3∨i=4∨i=5∨i=6∨i=7∨i=8∨i=9∨i=10∨i=11∨i=12∨i=13∨i=14∨i=15:=by omega
 all_goals kernel_rfl
theorem aao (s t:Int) {w i:Nat} (hi:i<16)(hb:w.testBit i=true):UH [.p 59 0 0,.ag [.i .u32 ((1024+16*i:Nat):Int),.i .u32 16]] (S1 s t ((w%2^i:Nat):Int))=some (.b true,S1 s t ((w%2^(i+1):Nat):Int)):=by
 have h:vF (.i .u64 ((w%2^i:Nat):Int)) ((1024+16*i:Nat):Int)=some (((w%2^(i+1):Nat):Int)):=by
  show (if LD ((w%2^i:Nat):Int) ((1024+16*i:Nat):Int)=true then none else some (BM ((w%2^i:Nat):Int) ((1024+16*i:Nat):Int)))=_
  rw [UU hi,MQ hi,GI w i,hb]
  simp
 rw [add_at s t _ hi,h];rfl
theorem Ak (w i:Nat):cnt w (i+1)=cnt w i+(bif Nat.blt i 12 then(w.testBit i).toNat else 0):=rfl
theorem loop1 {w:Nat} (hw:w<65536)(c t:Int) {Q:Out→Env→St→Prop} (q:∀e,get e 0= .i .u16 w→get e 6= .p 32 0 0→get e 11= .p 59 0 0→get e 12= .i .i64 (cnt w 16:Nat)→Q (.exit 2) e (S1 c t (w:Nat))) :
 ∀ (k i:Nat),i+k=16→nV XZ [0,6,11,12,13] V6 [(0,.i .u16 w),(6,.p 32 0 0),(11,.p 59 0 0),(12,.i .i64 (cnt w i:Nat)),(13,.i .i64 i)] (S1 c t ((w%2^i:Nat):Int)) Q:=by
 intro k
 induction k with
 | zero=>
   intro i hi
   obtain rfl:i=16:=by omega
   rw [show w%2^16=w from Nat.mod_eq_of_lt hw]
   refine nV.round aG (lit:=false) ?_
   conv=>whnf
   exact q _ rfl rfl rfl rfl
 | succ k ih=>
   intro i hi
   refine nV.round aG (lit:=false) ?_
   conv=>whnf
   rw [decide_eq_true (by omega)]
   conv=>whnf
   conv=>whnf
   refine⟨by omega,?_⟩
   conv=>whnf
   rw [UW hw (by omega)]
   cases hb:w.testBit i with
   | false=>
     have hm:w%2^i=w%2^(i+1):=by rw [GI,hb];simp
     have hn:cnt w (i+1)=cnt w i:=by rw [Ak,hb];cases Nat.blt i 12 <;> rfl
     rw [bit_0 hb]
     conv=>whnf
     refine⟨((i+1:Nat):Int),wrap_i64 (by omega) (by omega),?_⟩
     conv=>whnf
     rw [hm,←hn]
     exact ih (i+1) (by omega)
   | true=>
     rw [bit_1 hb]
     conv=>whnf
     refine⟨((i:Nat):Int),wrap_u32 (by omega) (by omega),?_⟩
     conv=>whnf
     refine⟨((16*i:Nat):Int),by rw [wrap_u32 (by omega) (by omega)];omega,?_⟩
     conv=>whnf
     refine⟨((1024+16*i:Nat):Int),by rw [wrap_u32 (by omega) (by omega)];omega,?_⟩
     conv=>whnf
     refine dH.prm rfl (aao c t (by omega) hb) ?_
     conv=>whnf
     by_cases h12:i<12
     ·have hn:cnt w (i+1)=cnt w i+1:=by rw [Ak,hb,show Nat.blt i 12=true from by simpa using h12];rfl
      rw [show decide ((i:Int)<12)=true from decide_eq_true (by omega)]
      conv=>whnf
      refine⟨((cnt w i+1:Nat):Int),by have:=cnt_le w i;rw [wrap_i64 (by omega) (by omega)];omega,?_⟩
      conv=>whnf
      refine⟨((i+1:Nat):Int),wrap_i64 (by omega) (by omega),?_⟩
      conv=>whnf
      rw [←hn]
      exact ih (i+1) (by omega)
     ·have hn:cnt w (i+1)=cnt w i:=by rw [Ak,show Nat.blt i 12=false from by cases h:Nat.blt i 12 with | false=>rfl | true=>exact absurd (jF h) h12];rfl
      rw [show decide ((i:Int)<12)=false from decide_eq_false (by omega)]
      conv=>whnf
      refine⟨((i+1:Nat):Int),wrap_i64 (by omega) (by omega),?_⟩
      conv=>whnf
      rw [←hn]
      exact ih (i+1) (by omega)
end Go.cO.YtnbdedokjfpckaaGreatDoor
namespace Go.cO.YtnbdedokjfpckaaGreatDoor
open Go.Proofs
set_option maxRecDepth 1000000
theorem aap (m s t:Int):(S2 s t m)[32]? =some ⟨0,false,.cells 77 (hrt m s t)⟩:=by kernel_rfl
theorem UY (m s t:Int):(S2 s t m)[31]? =some ⟨0,false,.cells 131 [.sl 65 0 0 0 8]⟩:=by kernel_rfl
theorem vw_v (m s t:Int) {i:Nat} (hi:i<12):(uP m s t)[(4+i)*8+7]? =some (.b (!bU m i)):=by
 obtain rfl | rfl | rfl | rfl | rfl | rfl | rfl | rfl | rfl | rfl | rfl | rfl:i=0∨i=1∨i=2∨i=3∨i=4∨i=5∨i=6∨i=7∨i=8∨i=9∨i=10∨i=11:=by omega
 all_goals kernel_rfl
theorem vw_pc (m s t:Int):(uP m s t)[135]? =some (.b true):=by kernel_rfl
def U10:AC:=AC.tl U9
def U11:AC:=AC.tl U10
def U12:AC:=AC.tl U11
def U13:AC:=AC.tl U12
def U14:AC:=AC.tl U13
theorem partD {w:Nat} (hw:w<65536)(c t:Int) {e:Env} (h0:get e 0= .i .u16 w)(h6:get e 6= .p 32 0 0)(h11:get e 11= .p 59 0 0)(h12:get e 12= .i .i64 0) :
 EvC XZ (AC.hd U9) e (S1 c t 0) fun o e σ=>o= .normal∧get e 0= .i .u16 w∧get e 6= .p 32 0 0∧get e 11= .p 59 0 0∧get e 12= .i .i64 (cnt w 16:Nat)∧σ=S1 c t (w:Nat):=by
 have hl:=(loop1 hw c t (Q:=Out.wI 2 fun o e σ=>o= .normal∧get e 0= .i .u16 w∧get e 6= .p 32 0 0∧get e 11= .p 59 0 0∧get e 12= .i .i64 (cnt w 16:Nat)∧σ=S1 c t (w:Nat)) (fun e a b d f=>by
  rw [Out.oG,if_pos rfl];exact⟨rfl,a,b,d,f,rfl⟩) 16 0 rfl).ev
 have hcl:clear [0,6,11,12,13] ((13,.i .i64 0) :: e)=[(0,.i .u16 w),(6,.p 32 0 0),(11,.p 59 0 0),(12,.i .i64 0),(13,.i .i64 0)]:=by
  unfold clear;simp only [List.map_cons,List.map_nil,get];simp [h0,h6,h11,h12]
 show EvC XZ (.seq (.reg _) (.blk 2 (.loop [0,6,11,12,13] V6))) e (S1 c t 0) _
 rw [jg]
 refine⟨0,(.normal,(13,.i .i64 0) :: e,S1 c t 0),rfl,?_⟩
 show Out.next _ _ Out.normal ((13,.i .i64 0) :: e) (S1 c t 0)
 rw [Out.gW,xJ,tV,jC,hcl]
 rw [show w%2^0=0 by rw [Nat.pow_zero,Nat.mod_one]] at hl
 have hl2:EvL XZ [0,6,11,12,13] V6 [(0,.i .u16 w),(6,.p 32 0 0),(11,.p 59 0 0),(12,.i .i64 0),(13,.i .i64 0)] (S1 c t 0) _:=hl
 rw [←hcl,jC,ku,hcl] at hl2
 exact hl2
theorem partE {w:Nat} (hw:w<65536) {e:Env} {σ:St} (h0:get e 0= .i .u16 w)(h6:get e 6= .p 32 0 0)(h11:get e 11= .p 59 0 0)(h12:get e 12= .i .i64 (cnt w 16:Nat)) :
 EvC XZ (AC.hd U10) e σ fun o e σ'=>o= .normal∧get e 0= .i .u16 w∧get e 6= .p 32 0 0∧get e 11= .p 59 0 0∧get e 12= .i .i64 (cnt w 16+w%2:Nat)∧σ'= σ:=by
 have hcl:clear [0,6,11,12] e=[(0,.i .u16 w),(6,.p 32 0 0),(11,.p 59 0 0),(12,.i .i64 (cnt w 16:Nat))]:=by
  unfold clear;simp only [List.map_cons,List.map_nil,h0,h6,h11,h12]
 show EvC XZ (.cut [0,6,11,12] _) e σ _
 rw [mM,hcl]
 have hb:=Kq w hw
 have hcn:=cnt_le w 16
 refine wQ aG (lit:=false) ?_
 conv=>whnf
 refine⟨((w%2:Nat):Int),?_,?_⟩
 ·show IntKind.i64.wrap (IntKind.u16.wrap ((BitVec.ofInt 16 (w:Int) &&& BitVec.ofInt 16 1).toNat:Int))=_
  rw [hb,wrap_u16 (by omega) (by omega),wrap_i64 (by omega) (by omega)]
 conv=>whnf
 refine⟨((cnt w 16+w%2:Nat):Int),by rw [wrap_i64 (by omega) (by omega)];omega,?_⟩
 conv=>whnf
 exact⟨rfl,rfl,rfl,rfl,rfl,rfl⟩
theorem partF {w:Nat} (c t:Int) {N:Nat} {e:Env} (h0:get e 0= .i .u16 w)(h6:get e 6= .p 32 0 0)(h11:get e 11= .p 59 0 0)(h12:get e 12= .i .i64 N) :
 EvC XZ (AC.hd U11) e (S1 c t w) fun o e σ=>o= .normal∧get e 0= .i .u16 w∧get e 6= .p 32 0 0∧get e 11= .p 59 0 0∧get e 12= .i .i64 N∧get e 14= .i .i64 (IntKind.i64.wrap (k1 w+0))∧σ=S2 c t w:=by
 have hcl:clear [0,6,11,12] e=[(0,.i .u16 w),(6,.p 32 0 0),(11,.p 59 0 0),(12,.i .i64 N)]:=by
  unfold clear;simp only [List.map_cons,List.map_nil,h0,h6,h11,h12]
 show EvC XZ (.cut [0,6,11,12] _) e _ _
 rw [mM,hcl]
 refine wQ aG (lit:=false) ?_
 conv=>whnf
 refine dH.prm rfl (scan1 c t w) ?_
 conv=>whnf
 exact⟨rfl,rfl,rfl,rfl,rfl,rfl,rfl⟩
theorem aaq {e e':Nat} {cs cs':List AV} {σ:St} :(bg e cs σ).set σ.length ⟨0,false,.cells e' cs'⟩=σ ++ [⟨0,false,.cells e' cs'⟩]:=by
 unfold bg
 rw [List.set_append_right _ _ (Nat.le_refl _),Nat.sub_self];rfl
attribute [local irreducible] uP hrt Vh S2
theorem partG {w:Nat} (c t:Int) {N:Nat} {k:Int} {e:Env} (h0:get e 0= .i .u16 w)(h6:get e 6= .p 32 0 0)(h11:get e 11= .p 59 0 0)(h12:get e 12= .i .i64 N)(h14:get e 14= .i .i64 k) :
 EvC XZ (AC.hd U12) e (S2 c t w) fun o e σ=>o= .normal∧get e 0= .i .u16 w∧get e 6= .p 32 0 0∧get e 11= .p 59 0 0∧get e 12= .i .i64 N∧get e 14= .i .i64 k∧get e 15= .p (S2 c t w).length 0 0∧
  σ=S2 c t w ++ [⟨0,false,.cells 41 (uP w c t)⟩]:=by
 have hcl:clear [0,6,11,12,14] e=[(0,.i .u16 w),(6,.p 32 0 0),(11,.p 59 0 0),(12,.i .i64 N),(14,.i .i64 k)]:=by
  unfold clear;simp only [List.map_cons,List.map_nil,h0,h6,h11,h12,h14]
 show EvC XZ (.cut [0,6,11,12,14] _) e _ _
 rw [mM,hcl]
 refine wQ aG (lit:=false) ?_
 conv=>whnf
 refine dH.to (aal (aap w c t) (UY w c t)) ?_
 refine Ko _ _ ?_
 conv=>whnf
 refine fO (qI (T:=Dq) (uP w c t) rfl (xP _ _ _) (vw_l w c t) (UM w c t) (Nat.le_of_ble_eq_true rfl) (UN w c t)) ?_
 conv=>whnf
 exact⟨rfl,rfl,rfl,rfl,rfl,rfl,rfl,aaq⟩
end Go.cO.YtnbdedokjfpckaaGreatDoor
namespace Go.cO.YtnbdedokjfpckaaGreatDoor
open Go.Proofs
set_option maxRecDepth 1000000
attribute [local irreducible] uP hrt Vh S2
theorem loop2 {w:Nat} (hw:w<65536)(c t:Int) {N:Nat} {k0:Int} {L:Nat} {σ:St} (hL:σ[L]? =some ⟨0,false,.cells 41 (uP w c t)⟩) {Q:Out→Env→St→Prop}
 (q:∀e,get e 6= .p 32 0 0→get e 11= .p 59 0 0→get e 12= .i .i64 N→get e 14= .i .i64 k0→get e 15= .p L 0 0→Q (.exit 4) e σ) :
 ∀ (k i:Nat),i+k=12→nV XZ [0,6,11,12,14,15,16] V7 [(0,.i .u16 w),(6,.p 32 0 0),(11,.p 59 0 0),(12,.i .i64 N),(14,.i .i64 k0),(15,.p L 0 0),(16,.i .i64 i)] σ Q:=by
 intro k
 induction k with
 | zero=>
   intro i hi
   obtain rfl:i=12:=by omega
   refine nV.round aG (lit:=false) ?_
   conv=>whnf
   exact q _ rfl rfl rfl rfl rfl
 | succ k ih=>
   intro i hi
   refine nV.round aG (lit:=false) ?_
   conv=>whnf
   rw [decide_eq_true (by omega)]
   conv=>whnf
   conv=>whnf
   refine⟨((4+i:Nat):Int),by rw [wrap_i64 (by omega) (by omega)];omega,?_⟩
   conv=>whnf
   refine⟨4+i,rfl,by omega,?_⟩
   conv=>whnf
   have hv:=vw_v w c t (show i<12 by omega)
   rw [gJ hw (by omega)] at hv
   have hv2:(uP (w:Int) c t)[0+0+0+(4+i)*8+7]? =some (.b (!w.testBit i)):=by
    rw [show 0+0+0+(4+i)*8+7=(4+i)*8+7 by omega];exact hv
   refine fO (dP (T:=yT4) rfl rfl (bW hL) hv2) ?_
   cases hb:w.testBit i with
   | false=>
     conv=>whnf
     refine⟨by omega,?_⟩
     conv=>whnf
     rw [UW hw (by omega),bit_0 hb]
     conv=>whnf
     refine⟨((i+1:Nat):Int),wrap_i64 (by omega) (by omega),?_⟩
     conv=>whnf
     exact ih (i+1) (by omega)
   | true=>
     conv=>whnf
     refine⟨by omega,?_⟩
     conv=>whnf
     rw [UW hw (by omega),bit_1 hb]
     conv=>whnf
     refine⟨((i+1:Nat):Int),wrap_i64 (by omega) (by omega),?_⟩
     conv=>whnf
     exact ih (i+1) (by omega)
theorem partH {w:Nat} (hw:w<65536)(c t:Int) {N:Nat} {k0:Int} {L:Nat} {σ:St} (hL:σ[L]? =some ⟨0,false,.cells 41 (uP w c t)⟩) {e:Env} (h0:get e 0= .i .u16 w)(h6:get e 6= .p 32 0 0)(h11:get e 11= .p 59 0 0)(h12:get e 12= .i .i64 N)(h14:get e 14= .i .i64 k0)
 (h15:get e 15= .p L 0 0):EvC XZ (AC.hd U13) e σ fun o e σ'=>o= .normal∧get e 6= .p 32 0 0∧get e 11= .p 59 0 0∧get e 12= .i .i64 N∧get e 14= .i .i64 k0∧get e 15= .p L 0 0∧σ'= σ:=by
 have hl:=(loop2 hw c t hL (N:=N) (k0:=k0) (Q:=Out.wI 4 fun o e σ'=>o= .normal∧get e 6= .p 32 0 0∧get e 11= .p 59 0 0∧get e 12= .i .i64 N∧get e 14= .i .i64 k0∧get e 15= .p L 0 0∧σ'= σ) (fun e a b d f g=>by
  rw [Out.oG,if_pos rfl];exact⟨rfl,a,b,d,f,g,rfl⟩) 12 0 rfl).ev
 have hcl:clear [0,6,11,12,14,15,16] ((16,.i .i64 0) :: e)=[(0,.i .u16 w),(6,.p 32 0 0),(11,.p 59 0 0),(12,.i .i64 N),(14,.i .i64 k0),(15,.p L 0 0),(16,.i .i64 0)]:=by
  unfold clear;simp only [List.map_cons,List.map_nil,get];simp [h0,h6,h11,h12,h14,h15]
 show EvC XZ (.seq (.reg _) (.blk 4 (.loop [0,6,11,12,14,15,16] V7))) e σ _
 rw [jg]
 refine⟨0,(.normal,(16,.i .i64 0) :: e,σ),rfl,?_⟩
 show Out.next _ _ Out.normal ((16,.i .i64 0) :: e) σ
 rw [Out.gW,xJ,tV,jC,hcl]
 have hl2:EvL XZ [0,6,11,12,14,15,16] V7 [(0,.i .u16 w),(6,.p 32 0 0),(11,.p 59 0 0),(12,.i .i64 N),(14,.i .i64 k0),(15,.p L 0 0),(16,.i .i64 0)] σ _:=hl
 rw [←hcl,jC,ku,hcl] at hl2
 exact hl2
theorem partI {w:Nat} (c t:Int) {N:Nat} {L:Nat} {σ:St} (hL:σ[L]? =some ⟨0,false,.cells 41 (uP w c t)⟩) {σ3:St} (hs:bFn XS 40 19 [.p 32 0 0,.p 59 0 0] σ=some (.i .i64 0,σ3))
 {e:Env} (h6:get e 6= .p 32 0 0) (h11:get e 11= .p 59 0 0) (h12:get e 12= .i .i64 N) (h14:get e 14= .i .i64 N) (h15:get e 15= .p L 0 0) :
 EvC XZ U14 e σ fun o e σ'=>o= .ret∧get e 4= .b true:=by
 have hcl:clear [6,11,12,14,15] e=[(6,.p 32 0 0),(11,.p 59 0 0),(12,.i .i64 N),(14,.i .i64 N),(15,.p L 0 0)]:=by
  unfold clear;simp only [List.map_cons,List.map_nil,h6,h11,h12,h14,h15]
 show EvC XZ (.seq (.cut [6,11,12,14,15] _) .ret) e σ _
 refine Gz ?_
 rw [hcl]
 refine wQ aG (lit:=false) ?_
 conv=>whnf
 rw [show decide ((N:Int)=(N:Int))=true from decide_eq_true rfl]
 conv=>whnf
 refine fO (dP (T:=yT4) rfl rfl (bW hL) (vw_pc w c t)) ?_
 conv=>whnf
 refine dH.prm rfl hs ?_
 conv=>whnf
 exact⟨rfl,rfl⟩
theorem UZ {w:Nat} (hw:w<65536) {st:Int} (h0:0≤st):yF XZ 5 [.i .u16 w,.i .u8 st] G0 fun r _=>r= .b true:=by
 obtain⟨c,hc⟩:∃c,st.tmod 5=c:=⟨_,rfl⟩
 have hc0:0≤c:=by rw [←hc];exact Int.tmod_nonneg 5 h0
 have hc5:c<5:=by rw [←hc];exact Int.tmod_lt_of_pos _ (by decide)
 obtain⟨t,ht,hgo⟩:∃t:Int,((c=4∧t=7)∨(c≠4∧t=0))∧aFn XZ 20 16 [.p 32 0 0,.i .i64 c,.i .i64 t] (S0 0 0)=some (.b true,S0 c t):=by
  obtain rfl | rfl | rfl | rfl | rfl:c=0∨c=1∨c=2∨c=3∨c=4:=by omega
  ·exact⟨0,.inr ⟨by decide,rfl⟩,go0⟩
  ·exact⟨0,.inr ⟨by decide,rfl⟩,go1⟩
  ·exact⟨0,.inr ⟨by decide,rfl⟩,go2⟩
  ·exact⟨0,.inr ⟨by decide,rfl⟩,go3⟩
  ·exact⟨7,.inl ⟨rfl,rfl⟩,go4⟩
 refine(NM (F:=F5) rfl rfl (Nat.le_of_ble_eq_true rfl)).2 ?_
 refine j_ (Q:=fun o e _=>o= .ret∧get e 4= .b true) ?_ fun o e s q=>?_
 ·show EvC XZ (UR preA U5) _ _ _
  refine D9 _ _ (kF (BU w st) fun e σ q=>?_)
  obtain⟨q0,q1,q6,q10,rfl⟩:=q
  show EvC XZ (.seq (AC.hd U5) (.cut [1000000,0,1,6,10] U6)) e _ _
  refine kF (partB hc ht q0 q1 q6 q10) fun e σ q=>?_
  obtain⟨q1,rfl⟩:=q
  rw [mM,q1]
  show EvC XZ (UR preB U9) _ _ _
  refine D9 _ _ (kF (partC hc hc0 hc5 hgo) fun e σ q=>?_)
  obtain⟨q0,q6,q11,q12,rfl⟩:=q
  show EvC XZ (.seq (AC.hd U9) U10) e _ _
  refine kF (partD hw c t q0 q6 q11 q12) fun e σ q=>?_
  obtain⟨q0,q6,q11,q12,rfl⟩:=q
  show EvC XZ (.seq (AC.hd U10) U11) e _ _
  refine kF (partE hw q0 q6 q11 q12) fun e σ q=>?_
  obtain⟨q0,q6,q11,q12,rfl⟩:=q
  show EvC XZ (.seq (AC.hd U11) U12) e _ _
  refine kF (partF c t q0 q6 q11 q12) fun e σ q=>?_
  obtain⟨q0,q6,q11,q12,q14,rfl⟩:=q
  rw [k1_nat hw] at q14
  show EvC XZ (.seq (AC.hd U12) U13) e _ _
  refine kF (partG c t q0 q6 q11 q12 q14) fun e σ q=>?_
  obtain⟨q0,q6,q11,q12,q14,q15,rfl⟩:=q
  have hL:(S2 c t w ++ [⟨0,false,.cells 41 (uP w c t)⟩])[(S2 c t w).length]? =some ⟨0,false,.cells 41 (uP w c t)⟩:=by
   rw [List.getElem?_append_right (Nat.le_refl _),Nat.sub_self];rfl
  show EvC XZ (.seq (AC.hd U13) U14) e _ _
  refine kF (partH hw c t hL q0 q6 q11 q12 q14 q15) fun e σ q=>?_
  obtain⟨q6,q11,q12,q14,q15,rfl⟩:=q
  have h2:=scan2 c t w ⟨0,false,.cells 41 (uP w c t)⟩
  rw [k2_nat,Option.map_eq_some_iff] at h2
  obtain⟨⟨v,σ3⟩,hs,hv⟩:=h2
  cases hv
  exact partI c t hL hs q6 q11 q12 q14 q15
 ·obtain⟨rfl,q⟩:=q
  refine⟨rfl,norm G0 (.b true) s,?_,by unfold norm;split <;> rfl⟩
  rw [show mg XZ.P F5.res e s=some (.b true) by
   show mg XZ.P [.t 4] e s=_
   simp only [mg,mG,pz,q]]
  rfl
end Go.cO.YtnbdedokjfpckaaGreatDoor
