/- Texts of this claim, joined: Bz1, Bz2. -/
import Derived.Test.YtjcicgkencfbgaaGreatDoorM21
set_option linter.unusedVariables false
set_option linter.unusedSimpArgs false
namespace Go.bG.YtjcicgkencfbgaaGreatDoor
def lz (t:Tok):Tok:=⟨t.k,t.s,0⟩
mutual
def eT:Tr→Tr
 | .nil=>.nil
 | .ex k n nm tx l r ar _=>.ex k n nm tx (eT l) (eT r) (Vz ar) 0
def Vz:rF→rF
 | .nil=>.nil
 | .cons t r=>.cons (eT t) (Vz r)
end
mutual
def eS:Sm→Sm
 | .st k nm p l r th el _=>.st k nm p (eT l) (eT r) (GZ th) (GZ el) 0
def GZ:oO→oO
 | .nil=>.nil
 | .cons t r=>.cons (eS t) (GZ r)
end
def eF (f:Fm):Fm:=⟨f.name,f.params,f.ptr,GZ f.body,0⟩
def Re.er {α β:Type} (g:α→β):Re α→Re β
 | .ok a ts=>.ok (g a) (ts.map lz)
 | .bad c _=>.bad c 0
 | .out=>.out
end Go.bG.YtjcicgkencfbgaaGreatDoor
namespace Go.bG.YtjcicgkencfbgaaGreatDoor
mutual
theorem oL:∀x:Tr,jT x x=true
 | .nil=>rfl
 | .ex k n nm tx l r ar ln=>by rw [jT,oL l,oL r,BF ar];simp
theorem BF:∀x:rF,jY x x=true
 | .nil=>rfl
 | .cons t r=>by rw [jY,oL t,BF r];rfl
end
mutual
theorem N_:∀x:Sm,o_ x x=true
 | .st k nm pt l r th el ln=>by rw [o_,oL l,oL r,pz th,pz el];simp
theorem pz:∀x:oO,gZ x x=true
 | .nil=>rfl
 | .cons t r=>by rw [gZ,N_ t,pz r];rfl
end
theorem Oa (f:Fm):wz f f=true:=by rw [wz,pz];simp
theorem uq:∀x:List Fm,fV x x=true
 | []=>rfl
 | f :: r=>by rw [fV,Oa f,uq r];rfl
end Go.bG.YtjcicgkencfbgaaGreatDoor
