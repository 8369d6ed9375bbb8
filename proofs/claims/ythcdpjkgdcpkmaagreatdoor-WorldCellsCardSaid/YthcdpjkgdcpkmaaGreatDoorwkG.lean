/-
 What laws of the chapter wk compute, and lemmas on it.
 No conditions.
-/
import Derived.Test.YthcdpjkgdcpkmaaGreatDoorwkA4
open Go.IntKind (i64)
set_option linter.unusedSimpArgs false
set_option linter.unusedVariables false
set_option linter.unusedSectionVars false
namespace Go.Proofs.YthcdpjkgdcpkmaaGreatDoor
noncomputable section
open Go Go.Sx
structure dg where
 Op:Int
 A:Int
 B:Int
 deriving Inhabited,DecidableEq
instance : b_ dg:=⟨3,λd=>[.v (.int .i64 d.Op),.v (.int .i64 d.A),.v (.int .i64 d.B)],λ_=>rfl,λ_=>rfl,λ_=>by simp only [iq,SV.st,kQ,dc]⟩
@[push_cast] theorem Ns (xs:List dg):iV (fl xs)=true:=m3 (λ_=>rfl) xs
@[push_cast] theorem w8:b_.sz dg=3:=rfl
@[push_cast] theorem Mn (d:dg):b_.cells d=[.v (.int .i64 d.Op),.v (.int .i64 d.A),.v (.int .i64 d.B)]:=rfl
@[push_cast] theorem MT (xs:List dg) (x0:Int) (x1:Int) (x2:Int):fl xs++[.v (.int .i64 x0),.v (.int .i64 x1),.v (.int .i64 x2)]=fl (xs++[dg.mk x0 x1 x2]):=by rw [fF];rfl
@[push_cast] theorem Mo (xs:List dg) (i:Int):(fl xs).getD (i.toNat*3) (.v (.int .i64 0)) = .v (.int .i64 (ix xs i).Op):=by
 have:=fo xs i 0 (by decide) (.v (.int .i64 0):SV) rfl
 rw [w8,eE] at this
 exact this
@[push_cast] theorem MU (xs:List dg) (i:Int):(fl xs).getD (i.toNat*3+1) (.v (.int .i64 0)) = .v (.int .i64 (ix xs i).A):=by
 have:=fo xs i 1 (by decide) (.v (.int .i64 0):SV) rfl
 rw [w8] at this
 exact this
@[push_cast] theorem MW (xs:List dg) (i:Int):(fl xs).getD (i.toNat*3+2) (.v (.int .i64 0)) = .v (.int .i64 (ix xs i).B):=by
 have:=fo xs i 2 (by decide) (.v (.int .i64 0):SV) rfl
 rw [w8] at this
 exact this
structure cy where
 Code:(List dg)
 Cells:Int
 Pipes:(List Int)
 Locks:Int
 Groups:Int
 deriving Inhabited,DecidableEq
instance : b_ cy:=⟨5,λd=>[.sl d.Code.length (fl d.Code),.v (.int .i64 d.Cells),.sl d.Pipes.length (fl d.Pipes),.v (.int .i64 d.Locks),.v (.int .i64 d.Groups)],λ_=>rfl,λ_=>rfl,λ_=>by simp only [iq,SV.st,kQ,dc]⟩
@[push_cast] theorem t_:b_.sz cy=5:=rfl
@[push_cast] theorem Az (d:cy):b_.cells d=[.sl d.Code.length (fl d.Code),.v (.int .i64 d.Cells),.sl d.Pipes.length (fl d.Pipes),.v (.int .i64 d.Locks),.v (.int .i64 d.Groups)]:=rfl
@[push_cast] theorem Lq (xs:List cy) (x0:(List dg)) (x1:Int) (x2:(List Int)) (x3:Int) (x4:Int):fl xs++[.sl x0.length (fl x0),.v (.int .i64 x1),.sl x2.length (fl x2),.v (.int .i64 x3),.v (.int .i64 x4)]=fl (xs++[cy.mk x0 x1 x2 x3 x4]):=by rw [fF];rfl
@[push_cast] theorem Ic (xs:List cy) (i:Int):(fl xs).getD (i.toNat*5+1) (.v (.int .i64 0)) = .v (.int .i64 (ix xs i).Cells):=by
 have:=fo xs i 1 (by decide) (.v (.int .i64 0):SV) rfl
 rw [t_] at this
 exact this
@[push_cast] theorem Id (xs:List cy) (i:Int):(fl xs).getD (i.toNat*5+3) (.v (.int .i64 0)) = .v (.int .i64 (ix xs i).Locks):=by
 have:=fo xs i 3 (by decide) (.v (.int .i64 0):SV) rfl
 rw [t_] at this
 exact this
@[push_cast] theorem HS (xs:List cy) (i:Int):(fl xs).getD (i.toNat*5+4) (.v (.int .i64 0)) = .v (.int .i64 (ix xs i).Groups):=by
 have:=fo xs i 4 (by decide) (.v (.int .i64 0):SV) rfl
 rw [t_] at this
 exact this
structure cD where
 Code:Int
 At:Int
 deriving Inhabited,DecidableEq
instance : b_ cD:=⟨2,λd=>[.v (.int .i64 d.Code),.v (.int .i64 d.At)],λ_=>rfl,λ_=>rfl,λ_=>by simp only [iq,SV.st,kQ,dc]⟩
@[push_cast] theorem NV (xs:List cD):iV (fl xs)=true:=m3 (λ_=>rfl) xs
@[push_cast] theorem Dp:b_.sz cD=2:=rfl
@[push_cast] theorem MX (d:cD):b_.cells d=[.v (.int .i64 d.Code),.v (.int .i64 d.At)]:=rfl
@[push_cast] theorem Nt (xs:List cD) (x0:Int) (x1:Int):fl xs++[.v (.int .i64 x0),.v (.int .i64 x1)]=fl (xs++[cD.mk x0 x1]):=by rw [fF];rfl
@[push_cast] theorem Lr (xs:List cD) (i:Int):(fl xs).getD (i.toNat*2) (.v (.int .i64 0)) = .v (.int .i64 (ix xs i).Code):=by
 have:=fo xs i 0 (by decide) (.v (.int .i64 0):SV) rfl
 rw [Dp,eE] at this
 exact this
@[push_cast] theorem MY (xs:List cD) (i:Int):(fl xs).getD (i.toNat*2+1) (.v (.int .i64 0)) = .v (.int .i64 (ix xs i).At):=by
 have:=fo xs i 1 (by decide) (.v (.int .i64 0):SV) rfl
 rw [Dp] at this
 exact this
structure kind where
 name:ByteArray
 args:ByteArray
 deriving Inhabited,DecidableEq
instance : b_ kind:=⟨2,λd=>[.v (.string d.name),.v (.string d.args)],λ_=>rfl,λ_=>rfl,λ_=>by simp only [iq,SV.st,kQ,dc]⟩
@[push_cast] theorem Om (xs:List kind):iV (fl xs)=true:=m3 (λ_=>rfl) xs
@[push_cast] theorem Ox:b_.sz kind=2:=rfl
@[push_cast] theorem Nu (d:kind):b_.cells d=[.v (.string d.name),.v (.string d.args)]:=rfl
@[push_cast] theorem NW (xs:List kind) (x0:ByteArray) (x1:ByteArray):fl xs++[.v (.string x0),.v (.string x1)]=fl (xs++[kind.mk x0 x1]):=by rw [fF];rfl
structure cr where
 pc:Int
 r:dn 8
 state:Int
 when:Int
 seq:Int
 deriving Inhabited,DecidableEq
instance : b_ cr:=⟨12,λd=>((.v (.int .i64 d.pc)::(b_.cells d.r++(.v (.int .i64 d.state)::(.v (.int .i64 d.when)::(.v (.int .i64 d.seq)::[]))))):List SV),(λ_=>by simp only [KM,gq,List.length_nil]),(λ_=>by simp only [KN,mJ,List.all_nil,jp,Value.oneCell',dc]),λ_=>by simp only [E8,iq,SV.st,kQ,dc]⟩
@[push_cast] theorem On (xs:List cr):iV (fl xs)=true:=m3 (λ_=>rfl) xs
@[push_cast] theorem xz:b_.sz cr=12:=rfl
@[push_cast] theorem Nv (d:cr):b_.cells d=((.v (.int .i64 d.pc)::(b_.cells d.r++(.v (.int .i64 d.state)::(.v (.int .i64 d.when)::(.v (.int .i64 d.seq)::[]))))):List SV):=rfl
@[push_cast] theorem NX (xs:List cr) (x0:Int) (x1:dn 8) (x9:Int) (x10:Int) (x11:Int):fl xs++((.v (.int .i64 x0)::(b_.cells x1++(.v (.int .i64 x9)::(.v (.int .i64 x10)::(.v (.int .i64 x11)::[]))))):List SV)=fl (xs++[cr.mk x0 x1 x9 x10 x11]):=by rw [fF];rfl
@[push_cast] theorem Nw (xs:List cr) (i:Int):(fl xs).getD (i.toNat*12) (.v (.int .i64 0)) = .v (.int .i64 (ix xs i).pc):=by
 have:=fo xs i 0 (by decide) (.v (.int .i64 0):SV) rfl
 rw [xz,eE] at this
 exact this
@[push_cast] theorem Ls (xs:List cr) (i:Int):(fl xs).getD (i.toNat*12+9) (.v (.int .i64 0)) = .v (.int .i64 (ix xs i).state):=by
 have:=fo xs i 9 (by decide) (.v (.int .i64 0):SV) rfl
 rw [xz] at this
 exact this
@[push_cast] theorem Mp (xs:List cr) (i:Int):(fl xs).getD (i.toNat*12+10) (.v (.int .i64 0)) = .v (.int .i64 (ix xs i).when):=by
 have:=fo xs i 10 (by decide) (.v (.int .i64 0):SV) rfl
 rw [xz] at this
 exact this
@[push_cast] theorem MZ (xs:List cr) (i:Int):(fl xs).getD (i.toNat*12+11) (.v (.int .i64 0)) = .v (.int .i64 (ix xs i).seq):=by
 have:=fo xs i 11 (by decide) (.v (.int .i64 0):SV) rfl
 rw [xz] at this
 exact this
structure bV where
 now:Int
 Ring_Next:Int
 Ring_List:(List Int)
 deriving Inhabited,DecidableEq
instance : b_ bV:=⟨3,λd=>[.v (.int .i64 d.now),.v (.int .i64 d.Ring_Next),.sl d.Ring_List.length (fl d.Ring_List)],λ_=>rfl,λ_=>rfl,λ_=>by simp only [iq,SV.st,kQ,dc]⟩
@[push_cast] theorem w9:b_.sz bV=3:=rfl
@[push_cast] theorem Jr (d:bV):b_.cells d=[.v (.int .i64 d.now),.v (.int .i64 d.Ring_Next),.sl d.Ring_List.length (fl d.Ring_List)]:=rfl
@[push_cast] theorem KQ (xs:List bV) (x0:Int) (x1:Int) (x2:(List Int)):fl xs++[.v (.int .i64 x0),.v (.int .i64 x1),.sl x2.length (fl x2)]=fl (xs++[bV.mk x0 x1 x2]):=by rw [fF];rfl
@[push_cast] theorem IX (xs:List bV) (i:Int):(fl xs).getD (i.toNat*3) (.v (.int .i64 0)) = .v (.int .i64 (ix xs i).now):=by
 have:=fo xs i 0 (by decide) (.v (.int .i64 0):SV) rfl
 rw [w9,eE] at this
 exact this
@[push_cast] theorem Et (xs:List bV) (i:Int):(fl xs).getD (i.toNat*3+1) (.v (.int .i64 0)) = .v (.int .i64 (ix xs i).Ring_Next):=by
 have:=fo xs i 1 (by decide) (.v (.int .i64 0):SV) rfl
 rw [w9] at this
 exact this
structure cI where
 Task:Int
 Case:Int
 Value:Int
 deriving Inhabited,DecidableEq
instance : b_ cI:=⟨3,λd=>[.v (.int .i64 d.Task),.v (.int .i64 d.Case),.v (.int .i64 d.Value)],λ_=>rfl,λ_=>rfl,λ_=>by simp only [iq,SV.st,kQ,dc]⟩
@[push_cast] theorem NY (xs:List cI):iV (fl xs)=true:=m3 (λ_=>rfl) xs
@[push_cast] theorem yB:b_.sz cI=3:=rfl
@[push_cast] theorem M0 (d:cI):b_.cells d=[.v (.int .i64 d.Task),.v (.int .i64 d.Case),.v (.int .i64 d.Value)]:=rfl
@[push_cast] theorem Nx (xs:List cI) (x0:Int) (x1:Int) (x2:Int):fl xs++[.v (.int .i64 x0),.v (.int .i64 x1),.v (.int .i64 x2)]=fl (xs++[cI.mk x0 x1 x2]):=by rw [fF];rfl
@[push_cast] theorem Lt (xs:List cI) (i:Int):(fl xs).getD (i.toNat*3) (.v (.int .i64 0)) = .v (.int .i64 (ix xs i).Task):=by
 have:=fo xs i 0 (by decide) (.v (.int .i64 0):SV) rfl
 rw [yB,eE] at this
 exact this
@[push_cast] theorem Lu (xs:List cI) (i:Int):(fl xs).getD (i.toNat*3+1) (.v (.int .i64 0)) = .v (.int .i64 (ix xs i).Case):=by
 have:=fo xs i 1 (by decide) (.v (.int .i64 0):SV) rfl
 rw [yB] at this
 exact this
@[push_cast] theorem KR (xs:List cI) (i:Int):(fl xs).getD (i.toNat*3+2) (.v (.int .i64 0)) = .v (.int .i64 (ix xs i).Value):=by
 have:=fo xs i 2 (by decide) (.v (.int .i64 0):SV) rfl
 rw [yB] at this
 exact this
structure cR where
 Cap:Int
 Items:(List Int)
 Closed:Bool
 Senders:(List cI)
 Getters:(List cI)
 deriving Inhabited,DecidableEq
instance : b_ cR:=⟨5,λd=>[.v (.int .i64 d.Cap),.sl d.Items.length (fl d.Items),.v (.bool d.Closed),.sl d.Senders.length (fl d.Senders),.sl d.Getters.length (fl d.Getters)],λ_=>rfl,λ_=>rfl,λ_=>by simp only [iq,SV.st,kQ,dc]⟩
@[push_cast] theorem Fc:b_.sz cR=5:=rfl
@[push_cast] theorem Ny (d:cR):b_.cells d=[.v (.int .i64 d.Cap),.sl d.Items.length (fl d.Items),.v (.bool d.Closed),.sl d.Senders.length (fl d.Senders),.sl d.Getters.length (fl d.Getters)]:=rfl
@[push_cast] theorem NZ (xs:List cR) (x0:Int) (x1:(List Int)) (x2:Bool) (x3:(List cI)) (x4:(List cI)):fl xs++[.v (.int .i64 x0),.sl x1.length (fl x1),.v (.bool x2),.sl x3.length (fl x3),.sl x4.length (fl x4)]=fl (xs++[cR.mk x0 x1 x2 x3 x4]):=by rw [fF];rfl
@[push_cast] theorem M7 (xs:List cR) (i:Int):(fl xs).getD (i.toNat*5) (.v (.int .i64 0)) = .v (.int .i64 (ix xs i).Cap):=by
 have:=fo xs i 0 (by decide) (.v (.int .i64 0):SV) rfl
 rw [Fc,eE] at this
 exact this
@[push_cast] theorem KS (xs:List cR) (i:Int):(fl xs).getD (i.toNat*5+2) (.v (.bool false)) = .v (.bool (ix xs i).Closed):=by
 have:=fo xs i 2 (by decide) (.v (.bool false):SV) rfl
 rw [Fc] at this
 exact this
structure dR where
 Task:Int
 Write:Bool
 N:Int
 deriving Inhabited,DecidableEq
instance : b_ dR:=⟨3,λd=>[.v (.int .i64 d.Task),.v (.bool d.Write),.v (.int .i64 d.N)],λ_=>rfl,λ_=>rfl,λ_=>by simp only [iq,SV.st,kQ,dc]⟩
@[push_cast] theorem Oo (xs:List dR):iV (fl xs)=true:=m3 (λ_=>rfl) xs
@[push_cast] theorem AA:b_.sz dR=3:=rfl
@[push_cast] theorem Nz (d:dR):b_.cells d=[.v (.int .i64 d.Task),.v (.bool d.Write),.v (.int .i64 d.N)]:=rfl
@[push_cast] theorem N0 (xs:List dR) (x0:Int) (x1:Bool) (x2:Int):fl xs++[.v (.int .i64 x0),.v (.bool x1),.v (.int .i64 x2)]=fl (xs++[dR.mk x0 x1 x2]):=by rw [fF];rfl
@[push_cast] theorem Mq (xs:List dR) (i:Int):(fl xs).getD (i.toNat*3) (.v (.int .i64 0)) = .v (.int .i64 (ix xs i).Task):=by
 have:=fo xs i 0 (by decide) (.v (.int .i64 0):SV) rfl
 rw [AA,eE] at this
 exact this
@[push_cast] theorem Lv (xs:List dR) (i:Int):(fl xs).getD (i.toNat*3+1) (.v (.bool false)) = .v (.bool (ix xs i).Write):=by
 have:=fo xs i 1 (by decide) (.v (.bool false):SV) rfl
 rw [AA] at this
 exact this
@[push_cast] theorem N7 (xs:List dR) (i:Int):(fl xs).getD (i.toNat*3+2) (.v (.int .i64 0)) = .v (.int .i64 (ix xs i).N):=by
 have:=fo xs i 2 (by decide) (.v (.int .i64 0):SV) rfl
 rw [AA] at this
 exact this
structure dj where
 Readers:Int
 Writer:Bool
 Line:(List dR)
 deriving Inhabited,DecidableEq
instance : b_ dj:=⟨3,λd=>[.v (.int .i64 d.Readers),.v (.bool d.Writer),.sl d.Line.length (fl d.Line)],λ_=>rfl,λ_=>rfl,λ_=>by simp only [iq,SV.st,kQ,dc]⟩
@[push_cast] theorem Fd:b_.sz dj=3:=rfl
@[push_cast] theorem NA (d:dj):b_.cells d=[.v (.int .i64 d.Readers),.v (.bool d.Writer),.sl d.Line.length (fl d.Line)]:=rfl
@[push_cast] theorem N8 (xs:List dj) (x0:Int) (x1:Bool) (x2:(List dR)):fl xs++[.v (.int .i64 x0),.v (.bool x1),.sl x2.length (fl x2)]=fl (xs++[dj.mk x0 x1 x2]):=by rw [fF];rfl
@[push_cast] theorem Js (xs:List dj) (i:Int):(fl xs).getD (i.toNat*3) (.v (.int .i64 0)) = .v (.int .i64 (ix xs i).Readers):=by
 have:=fo xs i 0 (by decide) (.v (.int .i64 0):SV) rfl
 rw [Fd,eE] at this
 exact this
@[push_cast] theorem KT (xs:List dj) (i:Int):(fl xs).getD (i.toNat*3+1) (.v (.bool false)) = .v (.bool (ix xs i).Writer):=by
 have:=fo xs i 1 (by decide) (.v (.bool false):SV) rfl
 rw [Fd] at this
 exact this
structure cY where
 Count:Int
 Line:(List Int)
 deriving Inhabited,DecidableEq
instance : b_ cY:=⟨2,λd=>[.v (.int .i64 d.Count),.sl d.Line.length (fl d.Line)],λ_=>rfl,λ_=>rfl,λ_=>by simp only [iq,SV.st,kQ,dc]⟩
@[push_cast] theorem IY:b_.sz cY=2:=rfl
@[push_cast] theorem M8 (d:cY):b_.cells d=[.v (.int .i64 d.Count),.sl d.Line.length (fl d.Line)]:=rfl
@[push_cast] theorem NB (xs:List cY) (x0:Int) (x1:(List Int)):fl xs++[.v (.int .i64 x0),.sl x1.length (fl x1)]=fl (xs++[cY.mk x0 x1]):=by rw [fF];rfl
@[push_cast] theorem KU (xs:List cY) (i:Int):(fl xs).getD (i.toNat*2) (.v (.int .i64 0)) = .v (.int .i64 (ix xs i).Count):=by
 have:=fo xs i 0 (by decide) (.v (.int .i64 0):SV) rfl
 rw [IY,eE] at this
 exact this
structure cz where
 Task:Int
 Op:Int
 Obj:Int
 Value:Int
 deriving Inhabited,DecidableEq
instance : b_ cz:=⟨4,λd=>[.v (.int .i64 d.Task),.v (.int .i64 d.Op),.v (.int .i64 d.Obj),.v (.int .i64 d.Value)],λ_=>rfl,λ_=>rfl,λ_=>by simp only [iq,SV.st,kQ,dc]⟩
@[push_cast] theorem NC (xs:List cz):iV (fl xs)=true:=m3 (λ_=>rfl) xs
@[push_cast] theorem tI:b_.sz cz=4:=rfl
@[push_cast] theorem Mr (d:cz):b_.cells d=[.v (.int .i64 d.Task),.v (.int .i64 d.Op),.v (.int .i64 d.Obj),.v (.int .i64 d.Value)]:=rfl
@[push_cast] theorem M9 (xs:List cz) (x0:Int) (x1:Int) (x2:Int) (x3:Int):fl xs++[.v (.int .i64 x0),.v (.int .i64 x1),.v (.int .i64 x2),.v (.int .i64 x3)]=fl (xs++[cz.mk x0 x1 x2 x3]):=by rw [fF];rfl
@[push_cast] theorem KV (xs:List cz) (i:Int):(fl xs).getD (i.toNat*4) (.v (.int .i64 0)) = .v (.int .i64 (ix xs i).Task):=by
 have:=fo xs i 0 (by decide) (.v (.int .i64 0):SV) rfl
 rw [tI,eE] at this
 exact this
@[push_cast] theorem Ms (xs:List cz) (i:Int):(fl xs).getD (i.toNat*4+1) (.v (.int .i64 0)) = .v (.int .i64 (ix xs i).Op):=by
 have:=fo xs i 1 (by decide) (.v (.int .i64 0):SV) rfl
 rw [tI] at this
 exact this
@[push_cast] theorem Lw (xs:List cz) (i:Int):(fl xs).getD (i.toNat*4+2) (.v (.int .i64 0)) = .v (.int .i64 (ix xs i).Obj):=by
 have:=fo xs i 2 (by decide) (.v (.int .i64 0):SV) rfl
 rw [tI] at this
 exact this
@[push_cast] theorem Jt (xs:List cz) (i:Int):(fl xs).getD (i.toNat*4+3) (.v (.int .i64 0)) = .v (.int .i64 (ix xs i).Value):=by
 have:=fo xs i 3 (by decide) (.v (.int .i64 0):SV) rfl
 rw [tI] at this
 exact this
structure fy where
 Next:Int
 List:(List Int)
 deriving Inhabited,DecidableEq
instance : b_ fy:=⟨2,λd=>[.v (.int .i64 d.Next),.sl d.List.length (fl d.List)],λ_=>rfl,λ_=>rfl,λ_=>by simp only [iq,SV.st,kQ,dc]⟩
@[push_cast] theorem KW:b_.sz fy=2:=rfl
@[push_cast] theorem ND (d:fy):b_.cells d=[.v (.int .i64 d.Next),.sl d.List.length (fl d.List)]:=rfl
@[push_cast] theorem N9 (xs:List fy) (x0:Int) (x1:(List Int)):fl xs++[.v (.int .i64 x0),.sl x1.length (fl x1)]=fl (xs++[fy.mk x0 x1]):=by rw [fF];rfl
@[push_cast] theorem Mt (xs:List fy) (i:Int):(fl xs).getD (i.toNat*2) (.v (.int .i64 0)) = .v (.int .i64 (ix xs i).Next):=by
 have:=fo xs i 0 (by decide) (.v (.int .i64 0):SV) rfl
 rw [KW,eE] at this
 exact this
structure de where
 Task:Int
 Case:Int
 Value:Int
 Ok:Bool
 Panic:Bool
 deriving Inhabited,DecidableEq
instance : b_ de:=⟨5,λd=>[.v (.int .i64 d.Task),.v (.int .i64 d.Case),.v (.int .i64 d.Value),.v (.bool d.Ok),.v (.bool d.Panic)],λ_=>rfl,λ_=>rfl,λ_=>by simp only [iq,SV.st,kQ,dc]⟩
@[push_cast] theorem N_ (xs:List de):iV (fl xs)=true:=m3 (λ_=>rfl) xs
@[push_cast] theorem s8:b_.sz de=5:=rfl
@[push_cast] theorem M_ (d:de):b_.cells d=[.v (.int .i64 d.Task),.v (.int .i64 d.Case),.v (.int .i64 d.Value),.v (.bool d.Ok),.v (.bool d.Panic)]:=rfl
@[push_cast] theorem NE (xs:List de) (x0:Int) (x1:Int) (x2:Int) (x3:Bool) (x4:Bool):fl xs++[.v (.int .i64 x0),.v (.int .i64 x1),.v (.int .i64 x2),.v (.bool x3),.v (.bool x4)]=fl (xs++[de.mk x0 x1 x2 x3 x4]):=by rw [fF];rfl
@[push_cast] theorem Lx (xs:List de) (i:Int):(fl xs).getD (i.toNat*5) (.v (.int .i64 0)) = .v (.int .i64 (ix xs i).Task):=by
 have:=fo xs i 0 (by decide) (.v (.int .i64 0):SV) rfl
 rw [s8,eE] at this
 exact this
@[push_cast] theorem Ly (xs:List de) (i:Int):(fl xs).getD (i.toNat*5+1) (.v (.int .i64 0)) = .v (.int .i64 (ix xs i).Case):=by
 have:=fo xs i 1 (by decide) (.v (.int .i64 0):SV) rfl
 rw [s8] at this
 exact this
@[push_cast] theorem KX (xs:List de) (i:Int):(fl xs).getD (i.toNat*5+2) (.v (.int .i64 0)) = .v (.int .i64 (ix xs i).Value):=by
 have:=fo xs i 2 (by decide) (.v (.int .i64 0):SV) rfl
 rw [s8] at this
 exact this
@[push_cast] theorem Na (xs:List de) (i:Int):(fl xs).getD (i.toNat*5+3) (.v (.bool false)) = .v (.bool (ix xs i).Ok):=by
 have:=fo xs i 3 (by decide) (.v (.bool false):SV) rfl
 rw [s8] at this
 exact this
@[push_cast] theorem KY (xs:List de) (i:Int):(fl xs).getD (i.toNat*5+4) (.v (.bool false)) = .v (.bool (ix xs i).Panic):=by
 have:=fo xs i 4 (by decide) (.v (.bool false):SV) rfl
 rw [s8] at this
 exact this
structure li where
 Done:Bool
 Panic:Bool
 Ok:Bool
 Value:Int
 Case:Int
 Wakes:(List de)
 deriving Inhabited,DecidableEq
instance : b_ li:=⟨6,λd=>[.v (.bool d.Done),.v (.bool d.Panic),.v (.bool d.Ok),.v (.int .i64 d.Value),.v (.int .i64 d.Case),.sl d.Wakes.length (fl d.Wakes)],λ_=>rfl,λ_=>rfl,λ_=>by simp only [iq,SV.st,kQ,dc]⟩
@[push_cast] theorem rJ:b_.sz li=6:=rfl
@[push_cast] theorem Mu (d:li):b_.cells d=[.v (.bool d.Done),.v (.bool d.Panic),.v (.bool d.Ok),.v (.int .i64 d.Value),.v (.int .i64 d.Case),.sl d.Wakes.length (fl d.Wakes)]:=rfl
@[push_cast] theorem Nb (xs:List li) (x0:Bool) (x1:Bool) (x2:Bool) (x3:Int) (x4:Int) (x5:(List de)):fl xs++[.v (.bool x0),.v (.bool x1),.v (.bool x2),.v (.int .i64 x3),.v (.int .i64 x4),.sl x5.length (fl x5)]=fl (xs++[li.mk x0 x1 x2 x3 x4 x5]):=by rw [fF];rfl
@[push_cast] theorem KZ (xs:List li) (i:Int):(fl xs).getD (i.toNat*6) (.v (.bool false)) = .v (.bool (ix xs i).Done):=by
 have:=fo xs i 0 (by decide) (.v (.bool false):SV) rfl
 rw [rJ,eE] at this
 exact this
@[push_cast] theorem Ju (xs:List li) (i:Int):(fl xs).getD (i.toNat*6+1) (.v (.bool false)) = .v (.bool (ix xs i).Panic):=by
 have:=fo xs i 1 (by decide) (.v (.bool false):SV) rfl
 rw [rJ] at this
 exact this
@[push_cast] theorem Mv (xs:List li) (i:Int):(fl xs).getD (i.toNat*6+2) (.v (.bool false)) = .v (.bool (ix xs i).Ok):=by
 have:=fo xs i 2 (by decide) (.v (.bool false):SV) rfl
 rw [rJ] at this
 exact this
@[push_cast] theorem Jv (xs:List li) (i:Int):(fl xs).getD (i.toNat*6+3) (.v (.int .i64 0)) = .v (.int .i64 (ix xs i).Value):=by
 have:=fo xs i 3 (by decide) (.v (.int .i64 0):SV) rfl
 rw [rJ] at this
 exact this
@[push_cast] theorem K0 (xs:List li) (i:Int):(fl xs).getD (i.toNat*6+4) (.v (.int .i64 0)) = .v (.int .i64 (ix xs i).Case):=by
 have:=fo xs i 4 (by decide) (.v (.int .i64 0):SV) rfl
 rw [rJ] at this
 exact this
structure jQ where
 Trace:(List cz)
 State:Int
 Steps:Int
 Now:Int
 Tasks:(List Int)
 Cells:(List Int)
 deriving Inhabited,DecidableEq
instance : b_ jQ:=⟨6,λd=>[.sl d.Trace.length (fl d.Trace),.v (.int .i64 d.State),.v (.int .i64 d.Steps),.v (.int .i64 d.Now),.sl d.Tasks.length (fl d.Tasks),.sl d.Cells.length (fl d.Cells)],λ_=>rfl,λ_=>rfl,λ_=>by simp only [iq,SV.st,kQ,dc]⟩
@[push_cast] theorem w_:b_.sz jQ=6:=rfl
@[push_cast] theorem Mw (d:jQ):b_.cells d=[.sl d.Trace.length (fl d.Trace),.v (.int .i64 d.State),.v (.int .i64 d.Steps),.v (.int .i64 d.Now),.sl d.Tasks.length (fl d.Tasks),.sl d.Cells.length (fl d.Cells)]:=rfl
@[push_cast] theorem Nc (xs:List jQ) (x0:(List cz)) (x1:Int) (x2:Int) (x3:Int) (x4:(List Int)) (x5:(List Int)):fl xs++[.sl x0.length (fl x0),.v (.int .i64 x1),.v (.int .i64 x2),.v (.int .i64 x3),.sl x4.length (fl x4),.sl x5.length (fl x5)]=fl (xs++[jQ.mk x0 x1 x2 x3 x4 x5]):=by rw [fF];rfl
@[push_cast] theorem Jw (xs:List jQ) (i:Int):(fl xs).getD (i.toNat*6+1) (.v (.int .i64 0)) = .v (.int .i64 (ix xs i).State):=by
 have:=fo xs i 1 (by decide) (.v (.int .i64 0):SV) rfl
 rw [w_] at this
 exact this
@[push_cast] theorem Jx (xs:List jQ) (i:Int):(fl xs).getD (i.toNat*6+2) (.v (.int .i64 0)) = .v (.int .i64 (ix xs i).Steps):=by
 have:=fo xs i 2 (by decide) (.v (.int .i64 0):SV) rfl
 rw [w_] at this
 exact this
@[push_cast] theorem Lz (xs:List jQ) (i:Int):(fl xs).getD (i.toNat*6+3) (.v (.int .i64 0)) = .v (.int .i64 (ix xs i).Now):=by
 have:=fo xs i 3 (by decide) (.v (.int .i64 0):SV) rfl
 rw [w_] at this
 exact this
def ib:List kind:=[⟨⟨#[]⟩,⟨#[]⟩⟩,⟨⟨#[115,101,116]⟩,⟨#[114,110]⟩⟩,⟨⟨#[99,111,112,121]⟩,⟨#[114,114]⟩⟩,⟨⟨#[97,100,100]⟩,⟨#[114,114]⟩⟩,⟨⟨#[115,117,98]⟩,⟨#[114,114]⟩⟩,⟨⟨#[108,101,115,115]⟩,⟨#[114,114]⟩⟩,⟨⟨#[106,117,109,112]⟩,⟨#[99,45]⟩⟩,⟨⟨#[122,101,114,111]⟩,⟨#[114,99]⟩⟩,⟨⟨#[112,114,105,110,116]⟩,⟨#[114,45]⟩⟩,⟨⟨#[101,110,100]⟩,⟨#[45,45]⟩⟩,⟨⟨#[121,105,101,108,100]⟩,⟨#[45,45]⟩⟩,⟨⟨#[103,111]⟩,⟨#[99,114]⟩⟩,⟨⟨#[108,111,97,100]⟩,⟨#[114,109]⟩⟩,⟨⟨#[115,116,111,114,101]⟩,⟨#[109,114]⟩⟩,⟨⟨#[115,101,110,100]⟩,⟨#[112,114]⟩⟩,⟨⟨#[103,101,116]⟩,⟨#[114,112]⟩⟩,⟨⟨#[115,104,117,116]⟩,⟨#[112,45]⟩⟩,⟨⟨#[108,111,99,107]⟩,⟨#[108,107]⟩⟩,⟨⟨#[117,110,108,111,99,107]⟩,⟨#[108,107]⟩⟩,⟨⟨#[99,111,117,110,116]⟩,⟨#[103,114]⟩⟩,⟨⟨#[119,97,105,116]⟩,⟨#[103,45]⟩⟩,⟨⟨#[115,108,101,101,112]⟩,⟨#[114,45]⟩⟩,⟨⟨#[112,97,110,105,99]⟩,⟨#[45,45]⟩⟩]
def fX:List ByteArray:=[⟨#[]⟩,⟨#[114,110]⟩,⟨#[114,114]⟩,⟨#[114,114]⟩,⟨#[114,114]⟩,⟨#[114,114]⟩,⟨#[99,45]⟩,⟨#[114,99]⟩,⟨#[114,45]⟩,⟨#[45,45]⟩,⟨#[45,45]⟩,⟨#[99,114]⟩,⟨#[114,109]⟩,⟨#[109,114]⟩,⟨#[112,114]⟩,⟨#[114,112]⟩,⟨#[112,45]⟩,⟨#[108,107]⟩,⟨#[108,107]⟩,⟨#[103,114]⟩,⟨#[103,45]⟩,⟨#[114,45]⟩,⟨#[45,45]⟩]
def nt (a b:Int):Option (cD):=(some ((cD.mk a b)))
def rK (p:cy) (k x:Int):Option (Bool):=(bif (k==110) then (some (true)) else (some (((decide ((0:Int)<=x))&&(decide (x<(fU [(114,8),(99,(p.Code.length:Int)),(109,p.Cells),(112,(p.Pipes.length:Int)),(108,p.Locks),(103,p.Groups),(107,2),(45,1)] k)))))))
def py (a:Int) (b:Bool):Option (((Int) ⊕ (cD))):=(bif b then ((nt 5 a).bind λc=>(Option.map Sum.inr (some (c)))) else (some (Sum.inl ((i64.wrap (a+1))))))
def jf (p:cy):Int->Option (((Int) ⊕ (cD))):=λa=>(bif (decide (a<(p.Code.length:Int))) then (bif ((decide ((0:Int)<=a))&&(decide (a<(p.Code.length:Int)))) then (bif ((decide ((ix p.Code a).Op<1))||(decide ((23:Int)<=(ix p.Code a).Op))) then ((nt 4 a).bind λd=>(Option.map Sum.inr (some (d)))) else (bif ((decide ((0:Int)<=(ix p.Code a).Op))&&(decide ((ix p.Code a).Op<(ib.length:Int)))) then (bif (decide ((0:Int)<((((ix ib (ix p.Code a).Op).args).size:Nat):Int))) then ((rK p ((((ix ib (ix p.Code a).Op).args).data.getD ((0:Int)).toNat 0).toNat:Int) (ix p.Code a).A).bind λb=>(bif (!b) then (py a true) else (bif (decide ((1:Int)<((((ix ib (ix p.Code a).Op).args).size:Nat):Int))) then ((rK p ((((ix ib (ix p.Code a).Op).args).data.getD ((1:Int)).toNat 0).toNat:Int) (ix p.Code a).B).bind λc=>(py a (!c))) else none))) else none) else none)) else none) else (Option.map Sum.inr (some ((cD.mk 0 0)))))
def me (p:cy):Int->Option (((Int) ⊕ (cD))):=λa=>(bif (decide (a<(p.Pipes.length:Int))) then (bif ((decide ((0:Int)<=a))&&(decide (a<(p.Pipes.length:Int)))) then (bif ((decide ((ix p.Pipes a)<0))||(decide ((100:Int)<(ix p.Pipes a)))) then ((nt 8 a).bind λb=>(Option.map Sum.inr (some (b)))) else (some (Sum.inl ((i64.wrap (a+1)))))) else none) else (Option.map Sum.inr (dE (jf p) (0))))
def qk (p:cy):Option (cD):=(bif ((decide ((1000:Int)<(p.Code.length:Int)))||(decide ((20:Int)<(p.Pipes.length:Int)))) then ((nt 2 0).bind λb=>(some (b))) else (bif ((decide ((min (min p.Cells p.Locks) p.Groups)<0))||(decide ((20:Int)<(max (max p.Cells p.Locks) p.Groups)))) then ((nt 3 0).bind λa=>(some (a))) else (dE (me p) (0))))
def ph (a b:Int):Option (cD):=(some ((cD.mk a b)))
def kg (p:cy) (c:List bV):Int×(List cR)->Option (((Int×List cR) ⊕ ((List Int)×List cr×List bV×List Int×List cR×List dj×List cY))):=λ(a,b)=>(bif (decide (a<(p.Pipes.length:Int))) then (bif ((decide ((0:Int)<=a))&&(decide (a<(p.Pipes.length:Int)))) then (bif (decide ((b++([(cR.mk (ix p.Pipes a) [] false [] [])]:List cR)).length*88<=140737488355328)) then (some (Sum.inl ((i64.wrap (a+1)),(b++([(cR.mk (ix p.Pipes a) [] false [] [])]:List cR))))) else none) else none) else (Option.map Sum.inr (bif (decide (0<=p.Locks/\p.Locks<=4611686018427387904/\(40:Int)*p.Locks<=140737488355328)) then (bif (decide (0<=p.Groups/\p.Groups<=4611686018427387904/\(32:Int)*p.Groups<=140737488355328)) then (some ((List.replicate (p.Cells).toNat (default:Int)),([((cr.mk 0 (default:(dn 8)) 0 0 0):cr)]:List cr),c,([1]:List Int),b,(List.replicate (p.Locks).toNat (default:dj)),(List.replicate (p.Groups).toNat (default:cY)))) else none) else none)))
def kh (p:cy) (c:Int):Int×(List bV)->Option (((Int×List bV) ⊕ ((List Int)×List cr×List bV×List Int×List cR×List dj×List cY))):=λ(a,b)=>(bif (decide (a<c)) then (bif (decide ((b++[((bV.mk 0 0 []):bV)]).length*8<=140737488355328)) then (some (Sum.inl ((i64.wrap (a+1)),(b++[((bV.mk 0 0 []):bV)])))) else none) else (Option.map Sum.inr (dE (kg p b) (0,[]))))
def lR (p:cy) (a:Int):Option ((List Int)×List cr×List bV×List Int×List cR×List dj×List cY):=(bif (decide (0<=p.Cells/\p.Cells<=4611686018427387904/\(8:Int)*p.Cells<=140737488355328)) then (dE (kh p a) (0,[])) else none)
def iA (m:(List (PT cr))) (t:Int):Option (cr):=(bif ((decide ((0:Int)<=(i64.wrap (t-1))))&&(decide ((i64.wrap (t-1))<(m.length:Int)))) then (some ((ix m (i64.wrap (t-1))).x)) else none)
def nH (x:Int):Option (Bool):=(some ((x != x)))
def kS (x y:Int):Option (Int):=((nH x).bind λb=>((nH y).bind λa=>(bif b then (bif a then (some (0)) else (some ((-1)))) else (bif a then (some (1)) else (bif (decide (x<y)) then (some ((-1))) else (bif (decide (y<x)) then (some (1)) else (some (0))))))))
def pz (b:List Int):Int->Option (((Int) ⊕ (Int))):=λa=>(bif (decide (a<(b.length:Int))) then (bif ((decide ((0:Int)<=a))&&(decide (a<(b.length:Int)))) then (bif ((ix b a) != 0) then (Option.map Sum.inr (some ((ix b a)))) else (some (Sum.inl ((i64.wrap (a+1)))))) else none) else (Option.map Sum.inr (some (0))))
def ql (a:List Int):Option (Int):=(dE (pz a) (0))
def eF (j b:Int) (i:(List (PT cr))):Option (Int):=((iA i j).bind λe=>((iA i b).bind λh=>((kS e.when h.when).bind λg=>((iA i j).bind λf=>((iA i b).bind λc=>((kS f.seq c.seq).bind λa=>((ql ([g,a]:List Int)).bind λd=>(some (d)))))))))
def ki (c0:List Int) (ts:(List (PT cr))):Option (List Int):=open Classical in if (∀ a b:Int,1<=a/\a<=((((c0.foldl max 0).toNat):Nat):Int)->1<=b/\b<=((((c0.foldl max 0).toNat):Nat):Int)->(eF a b ts).isSome=true)/\Go.Sort.SWO (Go.Proofs.ltOf λ(a b:Rg ((c0.foldl max 0).toNat))=>(λa b:Int=>(eF a b ts).getD 0) a.1 b.1)/\(∀ x∈c0,1<=x/\x<=((((c0.foldl max 0).toNat):Nat):Int))/\c0.length<4611686018427387904 then some (oO ((c0.foldl max 0).toNat) (λa b:Int=>(eF a b ts).getD 0) c0) else none
def iO (b:Int) (c:List cr) (a:List Int):Option (((Int×List cr×List Int) ⊕ (Int×List Int×List cr))):=(some (Sum.inl ((i64.wrap (b+1)),c,a)))
def j9 (c:Int) (g:List cr) (f:List Int):Int×List cr×(List Int)->Option (((Int×List cr×List Int) ⊕ (Int×List Int×List cr))):=λ(a,b,d)=>(bif (decide (a<(g.length:Int))) then (bif ((decide ((0:Int)<=a))&&(decide (a<(b.length:Int)))) then (bif (((ix b a).state==2)&&(decide ((ix b a).when<=(i64.wrap (c+1))))) then (bif (decide ((d++([(i64.wrap (a+1))]:List Int)).length*8<=140737488355328)) then (iO a (b.set a.toNat ((cr.mk (ix b a).pc (ix b a).r 0 (ix b a).when (ix b a).seq):cr)) (d++([(i64.wrap (a+1))]:List Int))) else none) else (iO a b d)) else none) else (Option.map Sum.inr ((ki d (b.map PT.mk)).bind λe=>(bif (decide (e.length=d.length)) then (bif (decide ((f++e).length*8<=140737488355328)) then (some ((i64.wrap (c+1)),(f++e),b)) else none) else none))))
def jR (a:Int) (b:List cr) (c:List Int):Option (Int×List Int×List cr):=(dE (j9 a b c) (0,b,[]))
def ie (a b:Int):Option (cD):=(some ((cD.mk a b)))
def mf (q:fy):Int×(List (Int×Int))->Option (((Int×(List (Int×Int))) ⊕ (cD))):=λ(a,b)=>(bif (decide (a<(q.List.length:Int))) then (bif ((decide ((0:Int)<=a))&&(decide (a<(q.List.length:Int)))) then (bif (decide ((ix q.List a)<1)) then ((ie 3 (i64.wrap (a+1))).bind λd=>(Option.map Sum.inr (some (d)))) else (bif (decide ((0:Int)<(fU b (ix q.List a)))) then ((ie 10 (i64.wrap (a+1))).bind λc=>(Option.map Sum.inr (some (c)))) else (some (Sum.inl ((i64.wrap (a+1)),(iv b (ix q.List a) 1)))))) else none) else (Option.map Sum.inr (some ((cD.mk 0 0)))))
def nI (q:fy) (a:(List (Int×Int))):Option (cD):=(dE (mf q) (0,a))
def kC (q:fy):Option (cD):=(bif (decide ((256:Int)<(q.List.length:Int))) then ((ie 2 0).bind λa=>(some (a))) else (bif (decide (q.Next<0)) then ((ie 3 0).bind λb=>(some (b))) else (bif (decide ((0:Int)<q.Next)) then (nI q (iv [] q.Next 1)) else (nI q []))))
def fe (s:List Int):Option ((List Int)):=(bif (decide ((([]:List Int)++s).length*8<=140737488355328)) then (some ((([]:List Int)++s))) else none)
def kD (q:fy):Option ((List Int)):=((fe q.List).bind λa=>(some (a)))
def iY (q:fy):Option (Int×Int×cD×List Int):=((kC q).bind λb=>(bif (b.Code != 0) then (some (0,0,b,[])) else ((kD q).bind λa=>(bif (decide ((0:Int)<q.Next)) then (some (0,q.Next,(cD.mk 0 0),a)) else (bif ((a.length:Int)==0) then ((ie 6 0).bind λc=>(some (0,0,c,[]))) else (bif (decide ((0:Int)<(a.length:Int))) then (bif (decide ((1:Int)<=(a.length:Int))) then ((fe (cut a (1:Int) (a.length:Int))).bind λd=>(some (q.Next,(ix a (0:Int)),(cD.mk 0 0),d))) else none) else none))))))
def fK (b:Int) (c:cD) (a:List bV):Option (Bool×List bV):=(bif (decide (0<=b/\b<(a.length:Int))) then (some ((c.Code==0),a)) else none)
def dU (b:Int) (c:List bV):Option (Bool×List bV):=(bif (decide (0<=b/\b<(c.length:Int))) then ((iY (fy.mk (ix c b).Ring_Next (ix c b).Ring_List)).bind λa=>((λz0:List bV=>(bif (a.2.2.1.Code==0) then (fK b a.2.2.1 (z0.set b.toNat ((bV.mk a.2.1 (ix z0 b).Ring_Next (ix z0 b).Ring_List):bV))) else (fK b a.2.2.1 c))) (c.set b.toNat ((bV.mk (ix c b).now a.1 a.2.2.2):bV)))) else none)
def mL (q:fy):Option ((List Int)):=(bif (decide ((0:Int)<q.Next)) then (bif (decide ((([q.Next]:List Int)++q.List).length*8<=140737488355328)) then (some ((([q.Next]:List Int)++q.List))) else none) else ((fe q.List).bind λa=>(some (a))))
def nu (b:List Int):Int×(List (Int×Int))->Option (((Int×(List (Int×Int))) ⊕ (Int))):=λ(a,c)=>(bif (decide (a<(b.length:Int))) then (bif ((decide ((0:Int)<=a))&&(decide (a<(b.length:Int)))) then (bif (decide ((0:Int)<(fU c (ix b a)))) then (Option.map Sum.inr (some (a))) else (some (Sum.inl ((i64.wrap (a+1)),(iv c (ix b a) 1))))) else none) else (Option.map Sum.inr (some ((-1)))))
def nv (d b:List Int):Int×(List (Int×Int))->Option (((Int×(List (Int×Int))) ⊕ (Int))):=λ(a,c)=>(bif (decide (a<(d.length:Int))) then (bif ((decide ((0:Int)<=a))&&(decide (a<(d.length:Int)))) then (some (Sum.inl ((i64.wrap (a+1)),(iv c (ix d a) 1)))) else none) else (Option.map Sum.inr (dE (nu b) (0,c))))
def mg (a b:List Int):Option (Int):=(dE (nv a b) (0,[]))
def kw (q:fy) (a:Int) (c:List Int):Int->Option (((Int) ⊕ (Int×cD×List Int×List Int))):=λb=>(bif (decide (b<(c.length:Int))) then (bif ((decide ((0:Int)<=b))&&(decide (b<(c.length:Int)))) then (bif (decide ((ix c b)<1)) then ((ie 5 b).bind λg=>(Option.map Sum.inr (some (0,g,[],[])))) else (some (Sum.inl ((i64.wrap (b+1)))))) else none) else (Option.map Sum.inr ((mL q).bind λf=>((mg f c).bind λd=>(bif (decide ((0:Int)<=d)) then ((ie 8 d).bind λh=>(some (0,h,[],[]))) else (bif ((decide (a<1))||(decide ((64:Int)<a))) then ((ie 3 (-1)).bind λj=>(some (0,j,[],[]))) else (bif (a != 0) then ((kD q).bind λe=>(bif ((decide ((0:Int)<=(min (min (min (i64.wrap ((i64.wrap (Int.tdiv (c.length:Int) a))+1)) (c.length:Int)) 128) (i64.wrap ((256:Int)-(q.List.length:Int))))))&&(decide ((min (min (min (i64.wrap ((i64.wrap (Int.tdiv (c.length:Int) a))+1)) (c.length:Int)) 128) (i64.wrap ((256:Int)-(q.List.length:Int))))<=(c.length:Int)))) then (bif (decide ((e++(cut c (0:Int) (min (min (min (i64.wrap ((i64.wrap (Int.tdiv (c.length:Int) a))+1)) (c.length:Int)) 128) (i64.wrap ((256:Int)-(q.List.length:Int)))))).length*8<=140737488355328)) then (bif ((decide ((0:Int)<=(min (min (min (i64.wrap ((i64.wrap (Int.tdiv (c.length:Int) a))+1)) (c.length:Int)) 128) (i64.wrap ((256:Int)-(q.List.length:Int))))))&&(decide ((min (min (min (i64.wrap ((i64.wrap (Int.tdiv (c.length:Int) a))+1)) (c.length:Int)) 128) (i64.wrap ((256:Int)-(q.List.length:Int))))<=(c.length:Int)))) then ((fe (cut c (min (min (min (i64.wrap ((i64.wrap (Int.tdiv (c.length:Int) a))+1)) (c.length:Int)) 128) (i64.wrap ((256:Int)-(q.List.length:Int)))) (c.length:Int))).bind λi=>(some (q.Next,(cD.mk 0 0),(e++(cut c (0:Int) (min (min (min (i64.wrap ((i64.wrap (Int.tdiv (c.length:Int) a))+1)) (c.length:Int)) 128) (i64.wrap ((256:Int)-(q.List.length:Int)))))),i))) else none) else none) else none)) else none)))))))
def jg (q:fy) (c:Int) (d:List Int):Option (Int×cD×List Int×List Int):=((kC q).bind λa=>(bif (a.Code != 0) then (some (0,a,[],[])) else (bif (decide ((5000:Int)<(d.length:Int))) then ((ie 2 (-1)).bind λb=>(some (0,b,[],[]))) else (dE (kw q c d) (0)))))
def jh (c f:fy) (j:Bool):Int->Option (((Int) ⊕ (Int×Int×Int×cD×List Int×List Int))):=λd=>(bif (decide (d<((([c,f]:List fy).length:Nat):Int))) then (bif ((decide ((0:Int)<=d))&&(decide (d<((([c,f]:List fy).length:Nat):Int)))) then ((kC (ix ([c,f]:List fy) d)).bind λe=>(bif (e.Code != 0) then (Option.map Sum.inr (some (0,0,0,e,[],[]))) else (some (Sum.inl ((i64.wrap (d+1))))))) else none) else (Option.map Sum.inr ((mL c).bind λi=>((mL f).bind λk=>((mg i k).bind λg=>(bif (decide ((0:Int)<=g)) then ((ie 8 0).bind λh=>(some (0,0,0,h,[],[]))) else ((kD c).bind λa=>((kD f).bind λb=>(bif ((a.length:Int)==0) then (bif ((!j)||((c.Next==0)||((i64.wrap ((256:Int)-(b.length:Int)))==0))) then (some (c.Next,f.Next,0,(cD.mk 0 0),a,b)) else (bif (decide ((b++([c.Next]:List Int)).length*8<=140737488355328)) then (some (0,f.Next,1,(cD.mk 0 0),a,(b++([c.Next]:List Int)))) else none)) else (bif ((decide ((0:Int)<=(min (i64.wrap ((a.length:Int)-(i64.wrap (Int.tdiv (a.length:Int) 2)))) (i64.wrap ((256:Int)-(b.length:Int))))))&&(decide ((min (i64.wrap ((a.length:Int)-(i64.wrap (Int.tdiv (a.length:Int) 2)))) (i64.wrap ((256:Int)-(b.length:Int))))<=(a.length:Int)))) then (bif (decide ((b++(cut a (0:Int) (min (i64.wrap ((a.length:Int)-(i64.wrap (Int.tdiv (a.length:Int) 2)))) (i64.wrap ((256:Int)-(b.length:Int)))))).length*8<=140737488355328)) then (bif ((decide ((0:Int)<=(min (i64.wrap ((a.length:Int)-(i64.wrap (Int.tdiv (a.length:Int) 2)))) (i64.wrap ((256:Int)-(b.length:Int))))))&&(decide ((min (i64.wrap ((a.length:Int)-(i64.wrap (Int.tdiv (a.length:Int) 2)))) (i64.wrap ((256:Int)-(b.length:Int))))<=(a.length:Int)))) then ((fe (cut a (min (i64.wrap ((a.length:Int)-(i64.wrap (Int.tdiv (a.length:Int) 2)))) (i64.wrap ((256:Int)-(b.length:Int)))) (a.length:Int))).bind λl=>(some (c.Next,f.Next,(min (i64.wrap ((a.length:Int)-(i64.wrap (Int.tdiv (a.length:Int) 2)))) (i64.wrap ((256:Int)-(b.length:Int)))),(cD.mk 0 0),l,(b++(cut a (0:Int) (min (i64.wrap ((a.length:Int)-(i64.wrap (Int.tdiv (a.length:Int) 2)))) (i64.wrap ((256:Int)-(b.length:Int))))))))) else none) else none) else none))))))))))
def nw (a c:fy) (b:Bool):Option (Int×Int×Int×cD×List Int×List Int):=(dE (jh a c b) (0))
def j_ (p:Int) (e:List Int):Int×(List bV)->Option (((Int×List bV) ⊕ (Bool×List Int×List bV))):=λ(d,a)=>(bif (decide (0<=p/\p<(a.length:Int))) then (bif (decide (d<(a.length:Int))) then (bif ((a.length:Int) != 0) then (bif ((decide ((0:Int)<=(Int.tmod (i64.wrap (p+d)) (a.length:Int))))&&(decide ((Int.tmod (i64.wrap (p+d)) (a.length:Int))<(a.length:Int)))) then ((nw (fy.mk (ix a (Int.tmod (i64.wrap (p+d)) (a.length:Int))).Ring_Next (ix a (Int.tmod (i64.wrap (p+d)) (a.length:Int))).Ring_List) (fy.mk (ix a p).Ring_Next (ix a p).Ring_List) true).bind λb=>(bif (decide ((0:Int)<b.2.2.1)) then ((λz0:List bV=>((λz1:List bV=>((dU p z1).bind λc=>(bif (decide (c.2.length=z1.length)) then (bif (decide (0<=p/\p<(c.2.length:Int))) then (Option.map Sum.inr (some (c.1,e,c.2))) else none) else none))) (z0.set p.toNat ((bV.mk (ix z0 p).now b.2.1 b.2.2.2.2.2):bV)))) (a.set (Int.tmod (i64.wrap (p+d)) (a.length:Int)).toNat ((bV.mk (ix a (Int.tmod (i64.wrap (p+d)) (a.length:Int))).now b.1 b.2.2.2.2.1):bV))) else (some (Sum.inl ((i64.wrap (d+1)),a))))) else none) else none) else (Option.map Sum.inr (some (false,e,a)))) else none)
def gm (p:Int) (e:List bV) (d:List Int):Option (Bool×List Int×List bV):=(bif ((decide ((0:Int)<=p))&&(decide (p<(e.length:Int)))) then ((dU p e).bind λa=>(bif (decide (a.2.length=e.length)) then (bif (decide (0<=p/\p<(a.2.length:Int))) then (bif a.1 then (some (true,d,a.2)) else (bif (decide ((0:Int)<(d.length:Int))) then ((jg (fy.mk (ix a.2 p).Ring_Next (ix a.2 p).Ring_List) (a.2.length:Int) d).bind λb=>((λz0:List bV=>((dU p z0).bind λc=>(bif (decide (c.2.length=z0.length)) then (bif (decide (0<=p/\p<(c.2.length:Int))) then (some (c.1,b.2.2.2,c.2)) else none) else none))) (a.2.set p.toNat ((bV.mk (ix a.2 p).now b.1 b.2.2.1):bV)))) else (dE (j_ p d) (1,a.2)))) else none) else none)) else none)
def dL (t:Int) (a:List cr):Option (Int):=(bif ((decide ((0:Int)<=(i64.wrap (t-1))))&&(decide ((i64.wrap (t-1))<(a.length:Int)))) then (some ((i64.wrap (t-1)))) else none)
def oP (a:Int):Option (Bool):=(some (((decide ((1:Int)<=a))&&(decide (a<=7)))))
def gF (b:Int) (a:List cr):Option (Int×List cr):=(some ((i64.wrap (b+1)),a))
def mh (c:dg) (d b:Int) (a:List cr):Option (Int×List cr):=(bif (decide (0<=b/\b<(a.length:Int))) then (bif (c.Op==1) then (bif ((decide ((0:Int)<=c.A))&&(decide (c.A<((8:Nat):Int)))) then (gF d (a.set b.toNat ((cr.mk (ix a b).pc ((ix a b).r.set c.A c.B) (ix a b).state (ix a b).when (ix a b).seq):cr))) else none) else (bif (c.Op==2) then (bif ((decide ((0:Int)<=c.B))&&(decide (c.B<((8:Nat):Int)))) then (bif ((decide ((0:Int)<=c.A))&&(decide (c.A<((8:Nat):Int)))) then (gF d (a.set b.toNat ((cr.mk (ix a b).pc ((ix a b).r.set c.A ((ix a b).r.get c.B)) (ix a b).state (ix a b).when (ix a b).seq):cr))) else none) else none) else (bif (c.Op==3) then (bif ((decide ((0:Int)<=c.A))&&(decide (c.A<((8:Nat):Int)))) then (bif ((decide ((0:Int)<=c.B))&&(decide (c.B<((8:Nat):Int)))) then (gF d (a.set b.toNat ((cr.mk (ix a b).pc ((ix a b).r.set c.A (i64.wrap (((ix a b).r.get c.A)+((ix a b).r.get c.B)))) (ix a b).state (ix a b).when (ix a b).seq):cr))) else none) else none) else (bif (c.Op==4) then (bif ((decide ((0:Int)<=c.A))&&(decide (c.A<((8:Nat):Int)))) then (bif ((decide ((0:Int)<=c.B))&&(decide (c.B<((8:Nat):Int)))) then (gF d (a.set b.toNat ((cr.mk (ix a b).pc ((ix a b).r.set c.A (i64.wrap (((ix a b).r.get c.A)-((ix a b).r.get c.B)))) (ix a b).state (ix a b).when (ix a b).seq):cr))) else none) else none) else (bif (c.Op==5) then (bif ((decide ((0:Int)<=c.A))&&(decide (c.A<((8:Nat):Int)))) then (bif ((decide ((0:Int)<=c.B))&&(decide (c.B<((8:Nat):Int)))) then (gF d (a.set b.toNat ((cr.mk (ix a b).pc ((ix a b).r.set c.A (mT [(true,1)] (decide (((ix a b).r.get c.A)<((ix a b).r.get c.B))))) (ix a b).state (ix a b).when (ix a b).seq):cr))) else none) else none) else (bif (c.Op==6) then (some (c.A,a)) else (bif (c.Op==7) then (bif ((decide ((0:Int)<=c.A))&&(decide (c.A<((8:Nat):Int)))) then (bif (((ix a b).r.get c.A)==0) then (some (c.B,a)) else (gF d a)) else none) else (gF d a)))))))) else none)
def dq (t c b a:Int) (d:List cz):Option ((List cz)):=(bif (decide ((d++([(cz.mk t c b a)]:List cz)).length*32<=140737488355328)) then (some ((d++([(cz.mk t c b a)]:List cz)))) else none)
def iZ (c t:Int) (b:List cr) (d:List bV) (e:List Int):Option (Bool×List Int×List cr×List bV):=(bif (decide (0<=c/\c<(d.length:Int))) then ((dL t b).bind λa=>(bif (decide (0<=a/\a<(b.length:Int))) then (bif (decide ((e++([t]:List Int)).length*8<=140737488355328)) then (some (false,(e++([t]:List Int)),(b.set a.toNat ((cr.mk (i64.wrap ((ix b a).pc+1)) (ix b a).r (ix b a).state (ix b a).when (ix b a).seq):cr)),(d.set c.toNat ((bV.mk 0 (ix d c).Ring_Next (ix d c).Ring_List):bV)))) else none) else none)) else none)
def i0 (s:List Int) (v:Int):Int->Option (((Int) ⊕ (Int))):=λa=>(bif (decide (a<(s.length:Int))) then (bif ((decide ((0:Int)<=a))&&(decide (a<(s.length:Int)))) then (bif (v==(ix s a)) then (Option.map Sum.inr (some (a))) else (some (Sum.inl ((i64.wrap (a+1)))))) else none) else (Option.map Sum.inr (some ((-1)))))
def ny (s:List Int) (v:Int):Option (Int):=(dE (i0 s v) (0))
def ic (s:List Int) (v:Int):Option (Bool):=((ny s v).bind λa=>(some ((decide ((0:Int)<=a)))))
def rh (t:Int) (b:List Int):Option ((List Int)×List Int):=(bif (decide ((b.length:Int)<256)) then (bif (decide ((b++([t]:List Int)).length*8<=140737488355328)) then (some ([],(b++([t]:List Int)))) else none) else (bif (decide ((128:Int)<=(b.length:Int))) then ((fe (cut b (0:Int) (128:Int))).bind λa=>(bif (decide ((a++([t]:List Int)).length*8<=140737488355328)) then (bif (decide ((128:Int)<=(b.length:Int))) then ((fe (cut b (128:Int) (b.length:Int))).bind λc=>(some ((a++([t]:List Int)),c))) else none) else none)) else none))
def pj (c a:Int) (d:List Int):Option (Int×cD×List Int×List Int):=((rh c d).bind λb=>(some (a,(cD.mk 0 0),b.2,b.1)))
def qS (q:fy) (a:Int) (f:Bool):Option (Int×cD×List Int×List Int):=((kC q).bind λc=>(bif (c.Code != 0) then (some (0,c,[],[])) else (bif (decide (a<1)) then ((ie 3 (-1)).bind λd=>(some (0,d,[],[]))) else ((mL q).bind λe=>((ic e a).bind λg=>(bif g then ((ie 10 (-1)).bind λh=>(some (0,h,[],[]))) else ((kD q).bind λb=>(bif f then (bif (q.Next==0) then (some (a,(cD.mk 0 0),b,[])) else (pj q.Next a b)) else (pj a q.Next b)))))))))
def i4 (d t:Int) (c:List cr) (e:List bV) (f:List Int):Option ((List Int)×List cr×List bV):=(bif (decide (0<=d/\d<(e.length:Int))) then ((qS (fy.mk (ix e d).Ring_Next (ix e d).Ring_List) t true).bind λb=>(bif (decide ((f++b.2.2.2).length*8<=140737488355328)) then ((dL t c).bind λa=>(bif (decide (0<=a/\a<(c.length:Int))) then (some ((f++b.2.2.2),(c.set a.toNat ((cr.mk (ix c a).pc (ix c a).r 0 (ix c a).when (ix c a).seq):cr)),(e.set d.toNat ((bV.mk (ix e d).now b.1 b.2.2.1):bV)))) else none)) else none)) else none)
def ji (a b:Int):Option (cD):=(some ((cD.mk a b)))
def pA (l:List cI):Int×(List (Int×Int))->Option (((Int×(List (Int×Int))) ⊕ (Int×(List (Int×Int))))):=λ(a,b)=>(bif (decide (a<(l.length:Int))) then (bif ((decide ((0:Int)<=a))&&(decide (a<(l.length:Int)))) then (bif ((decide ((ix l a).Task<1))||(decide ((ix l a).Case<0))) then (Option.map Sum.inr (some (3,b))) else (bif (decide ((0:Int)<(fU b (ix l a).Task))) then (Option.map Sum.inr (some (10,b))) else (some (Sum.inl ((i64.wrap (a+1)),(iv b (ix l a).Task 1)))))) else none) else (Option.map Sum.inr (some (0,b))))
def qm (l:List cI) (a:(List (Int×Int))):Option (Int×(List (Int×Int))):=(dE (pA l) (0,a))
def nJ (p:cR):Int->Option (((Int) ⊕ (cD))):=λa=>(bif (decide (a<(p.Getters.length:Int))) then (bif ((decide ((0:Int)<=a))&&(decide (a<(p.Getters.length:Int)))) then (bif ((ix p.Getters a).Value != 0) then ((ji 5 2).bind λb=>(Option.map Sum.inr (some (b)))) else (some (Sum.inl ((i64.wrap (a+1)))))) else none) else (Option.map Sum.inr (some ((cD.mk 0 0)))))
def oQ (p:cR):Option (cD):=(bif (decide ((5000:Int)<(i64.wrap ((i64.wrap ((p.Items.length:Int)+(p.Senders.length:Int)))+(p.Getters.length:Int))))) then ((ji 2 0).bind λd=>(some (d))) else (bif ((decide (p.Cap<0))||(decide ((1000:Int)<p.Cap))) then ((ji 3 0).bind λc=>(some (c))) else (bif (decide (p.Cap<(p.Items.length:Int))) then ((ji 8 0).bind λe=>(some (e))) else (bif (bif (decide ((0:Int)<(p.Senders.length:Int))) then (p.Closed||((decide ((p.Items.length:Int)<p.Cap))||((decide ((0:Int)<(p.Getters.length:Int)))||((decide ((0:Int)<(p.Getters.length:Int)))&&(p.Closed||(decide ((0:Int)<(p.Items.length:Int)))))))) else ((decide ((0:Int)<(p.Getters.length:Int)))&&(p.Closed||(decide ((0:Int)<(p.Items.length:Int)))))) then ((ji 5 0).bind λg=>(some (g))) else ((qm p.Senders []).bind λa=>(bif (a.1 != 0) then ((ji a.1 1).bind λf=>(some (f))) else ((qm p.Getters a.2).bind λb=>(bif (b.1 != 0) then ((ji b.1 2).bind λh=>(some (h))) else (dE (nJ p) (0))))))))))
def qn (x:cI) (a:Int):Option (Bool):=(some ((x.Task==a)))
def iB (s:List cI) (f:Int):Int->Option (((Int) ⊕ (Int))):=λa=>(bif (decide (a<(s.length:Int))) then (bif ((decide ((0:Int)<=a))&&(decide (a<(s.length:Int)))) then ((qn (ix s a) f).bind λb=>(bif b then (Option.map Sum.inr (some (a))) else (some (Sum.inl ((i64.wrap (a+1))))))) else none) else (Option.map Sum.inr (some ((-1)))))
def kT (s:List cI) (f:Int):Option (Int):=(dE (iB s f) (0))
def gK (s:List cI) (f:Int):Option (Bool):=((kT s f).bind λa=>(some ((decide ((0:Int)<=a)))))
def nK (a:Bool):Option (Bool):=(some (a))
def sj (p:cR) (a:Int):Option (Bool):=((gK p.Senders a).bind λb=>(bif b then (nK true) else ((gK p.Getters a).bind λc=>(nK c))))
def oR (p:cR) (b:Int):Option (cD):=((oQ p).bind λa=>(bif (a.Code != 0) then (some (a)) else (bif (decide (b<1)) then ((ji 3 (-1)).bind λd=>(some (d))) else ((sj p b).bind λc=>(bif c then ((ji 10 (-1)).bind λe=>(some (e))) else (bif ((i64.wrap ((i64.wrap ((p.Items.length:Int)+(p.Senders.length:Int)))+(p.Getters.length:Int)))==5000) then ((ji 9 0).bind λf=>(some (f))) else (some ((cD.mk 0 0)))))))))
def jZ (s:List cI):Option ((List cI)):=(bif (decide ((([]:List cI)++s).length*24<=140737488355328)) then (some ((([]:List cI)++s))) else none)
def ow (p:cR):Option ((List Int)×List cI×List cI):=((fe p.Items).bind λb=>((jZ p.Senders).bind λc=>((jZ p.Getters).bind λa=>(some (b,c,a)))))
def sk (x:cI) (c:Int) (a:Bool) (d:List Int) (b:List cI):Option (Bool×Bool×Int×List de×List Int×List cI):=(bif a then (some (true,true,x.Case,[],d,b)) else (bif (decide ((0:Int)<(b.length:Int))) then (bif (decide ((0:Int)<(b.length:Int))) then (bif (decide ((1:Int)<=(b.length:Int))) then (some (true,false,x.Case,([(de.mk (ix b (0:Int)).Task (ix b (0:Int)).Case x.Value true false)]:List de),d,(cut b (1:Int) (b.length:Int)))) else none) else none) else (bif (decide ((d.length:Int)<c)) then (bif (decide ((d++([x.Value]:List Int)).length*8<=140737488355328)) then (some (true,false,x.Case,[],(d++([x.Value]:List Int)),b)) else none) else (some (false,false,0,[],d,b)))))
def oz (p:cR) (b a:Bool) (c:Int) (g:List Int) (e f:List cI) (d:List de):Option (Int×Bool×Bool×Bool×Int×cD×List Int×List cI×List cI×List de):=(some (p.Cap,p.Closed,b,a,c,(cD.mk 0 0),g,e,f,d))
def mC (p:cR) (c d:Int) (f:Bool):Option (Int×Bool×Bool×Bool×Int×cD×List Int×List cI×List cI×List de):=((oR p c).bind λe=>(bif (e.Code != 0) then (some (0,false,false,false,0,e,[],[],[],[])) else ((ow p).bind λb=>((sk (cI.mk c 0 d) p.Cap p.Closed b.1 b.2.2).bind λa=>(bif ((!a.1)&&(!f)) then (bif (decide ((b.2.1++([(cI.mk c 0 d)]:List cI)).length*24<=140737488355328)) then (oz p a.1 a.2.1 a.2.2.1 a.2.2.2.2.1 (b.2.1++([(cI.mk c 0 d)]:List cI)) a.2.2.2.2.2 a.2.2.2.1) else none) else (oz p a.1 a.2.1 a.2.2.1 a.2.2.2.2.1 b.2.1 a.2.2.2.2.2 a.2.2.2.1))))))
def dI (t b:Int) (c:List cz):Option ((List cz)):=((dq t 22 b 0 c).bind λa=>(some (a)))
def fY (t:Int) (b:List cr):Option (Bool×List cr):=((dL t b).bind λa=>(bif (decide (0<=a/\a<(b.length:Int))) then (some (false,(b.set a.toNat ((cr.mk (ix b a).pc (ix b a).r 1 (ix b a).when (ix b a).seq):cr)))) else none))
def gD (t:Int) (d:dg) (c:Int) (g:Bool) (f:List cz) (b:List cr):Option ((List cz)×List cr):=((dL t b).bind λa=>(bif (decide (0<=a/\a<(b.length:Int))) then (bif ((decide ((0:Int)<=d.A))&&(decide (d.A<((8:Nat):Int)))) then ((dq t 15 d.B c f).bind λe=>((λz0:List cr=>(some (e,(z0.set a.toNat ((cr.mk (ix z0 a).pc ((ix z0 a).r.set (7:Int) (mT [(true,1)] g)) (ix z0 a).state (ix z0 a).when (ix z0 a).seq):cr))))) (b.set a.toNat ((cr.mk (ix b a).pc ((ix b a).r.set d.A c) (ix b a).state (ix b a).when (ix b a).seq):cr)))) else none) else none))
def fV (d t:Int) (c:List cr) (e:List bV) (f:List Int):Option ((List Int)×List cr×List bV):=(bif (decide (0<=d/\d<(e.length:Int))) then ((dL t c).bind λa=>(bif (decide (0<=a/\a<(c.length:Int))) then ((i4 d t (c.set a.toNat ((cr.mk (i64.wrap ((ix c a).pc+1)) (ix c a).r (ix c a).state (ix c a).when (ix c a).seq):cr)) e f).bind λb=>(bif (decide (0<=d/\d<(b.2.2.length:Int))) then (some (b.1,b.2.1,b.2.2)) else none)) else none)) else none)
def hM (g:Int) (l:List de) (b:Int) (d:List bV) (e:List Int) (f:List cr) (c:List cz):Option (((Int×List cr×List bV×List cz×List Int) ⊕ (Int×List cz×List Int×List cr×List bV))):=(bif (decide (0<=g/\g<(d.length:Int))) then ((fV g (ix l b).Task f d e).bind λa=>(bif (decide (0<=g/\g<(a.2.2.length:Int))) then (some (Sum.inl ((i64.wrap (b+1)),a.2.1,a.2.2,c,a.1))) else none)) else none)
def eY (n p:Int) (l:List de) (a:List dg) (e:Int):Int×List cr×List bV×List cz×(List Int)->Option (((Int×List cr×List bV×List cz×List Int) ⊕ (Int×List cz×List Int×List cr×List bV))):=λ(c,b,h,g,f)=>(bif (decide (0<=n/\n<(h.length:Int))) then (bif (decide (c<(l.length:Int))) then (bif ((decide ((0:Int)<=c))&&(decide (c<(l.length:Int)))) then ((dL (ix l c).Task b).bind λd=>(bif (decide (0<=d/\d<(b.length:Int))) then (bif ((decide ((0:Int)<=(ix b d).pc))&&(decide ((ix b d).pc<(a.length:Int)))) then (bif (ix l c).Panic then ((dI (ix l c).Task p g).bind λm=>(Option.map Sum.inr (some (2,m,f,b,h)))) else (bif ((ix a (ix b d).pc).Op==14) then ((dL (ix l c).Task b).bind λi=>(bif (decide (0<=i/\i<(b.length:Int))) then (bif ((decide ((0:Int)<=(ix a (ix b d).pc).B))&&(decide ((ix a (ix b d).pc).B<((8:Nat):Int)))) then ((dq (ix l c).Task (ix a (ix b d).pc).Op p ((ix b i).r.get (ix a (ix b d).pc).B) g).bind λk=>(hM n l c h f b k)) else none) else none)) else ((gD (ix l c).Task (ix a (ix b d).pc) (ix l c).Value (ix l c).Ok g b).bind λj=>(hM n l c h f j.2 j.1)))) else none) else none)) else none) else (Option.map Sum.inr (some (e,g,f,b,h)))) else none)
def dG (c p:Int) (l:List de) (a:List dg) (b:Int) (g:List cz) (e:List cr) (d:List bV) (f:List Int):Option (Int×List cz×List Int×List cr×List bV):=(bif (decide (0<=c/\c<(d.length:Int))) then (dE (eY c p l a b) (0,e,d,g,f)) else none)
def lf (x:cI) (b:Bool) (a:List Int) (c:List cI) (d:List de):Option (Bool×Bool×Int×Int×List de×List Int×List cI):=(bif (decide ((0:Int)<(a.length:Int))) then (bif (decide ((0:Int)<(a.length:Int))) then (bif (decide ((1:Int)<=(a.length:Int))) then (some (true,true,(ix a (0:Int)),x.Case,d,(cut a (1:Int) (a.length:Int)),c)) else none) else none) else (bif b then (some (true,false,0,x.Case,[],a,c)) else (some (false,false,0,0,[],a,c))))
def sm (x:cI) (a:Bool) (c:List Int) (b:List cI):Option (Bool×Bool×Int×Int×List de×List Int×List cI):=(bif (decide ((0:Int)<(b.length:Int))) then (bif (decide ((0:Int)<(b.length:Int))) then (bif (decide ((1:Int)<=(b.length:Int))) then (bif (decide ((c++([(ix b (0:Int)).Value]:List Int)).length*8<=140737488355328)) then (lf x a (c++([(ix b (0:Int)).Value]:List Int)) (cut b (1:Int) (b.length:Int)) ([(de.mk (ix b (0:Int)).Task (ix b (0:Int)).Case 0 false false)]:List de)) else none) else none) else none) else (lf x a c b []))
def pk (p:cR) (b d:Bool) (a c:Int) (f:List Int) (e h:List cI) (g:List de):Option (Int×Bool×Bool×Bool×Int×Int×cD×List Int×List cI×List cI×List de):=(some (p.Cap,p.Closed,b,d,a,c,(cD.mk 0 0),f,e,h,g))
def lS (p:cR) (c:Int) (e:Bool):Option (Int×Bool×Bool×Bool×Int×Int×cD×List Int×List cI×List cI×List de):=((oR p c).bind λd=>(bif (d.Code != 0) then (some (0,false,false,false,0,0,d,[],[],[],[])) else ((ow p).bind λb=>((sm (cI.mk c 0 0) p.Closed b.1 b.2.1).bind λa=>(bif ((!a.1)&&(!e)) then (bif (decide ((b.2.2++([(cI.mk c 0 0)]:List cI)).length*24<=140737488355328)) then (pk p a.1 a.2.1 a.2.2.1 a.2.2.2.1 a.2.2.2.2.2.1 a.2.2.2.2.2.2 (b.2.2++([(cI.mk c 0 0)]:List cI)) a.2.2.2.2.1) else none) else (pk p a.1 a.2.1 a.2.2.1 a.2.2.2.1 a.2.2.2.2.2.1 a.2.2.2.2.2.2 b.2.2 a.2.2.2.2.1))))))
def m4 (c:List cI):Int×(List de)->Option (((Int×List de) ⊕ (Bool×List de×Bool×List cI×List cI))):=λ(a,b)=>(bif (decide (a<(c.length:Int))) then (bif ((decide ((0:Int)<=a))&&(decide (a<(c.length:Int)))) then (bif (decide ((b++([(de.mk (ix c a).Task (ix c a).Case 0 false true)]:List de)).length*32<=140737488355328)) then (some (Sum.inl ((i64.wrap (a+1)),(b++([(de.mk (ix c a).Task (ix c a).Case 0 false true)]:List de))))) else none) else none) else (Option.map Sum.inr (some (false,b,true,[],[]))))
def m5 (d c:List cI):Int×(List de)->Option (((Int×List de) ⊕ (Bool×List de×Bool×List cI×List cI))):=λ(a,b)=>(bif (decide (a<(c.length:Int))) then (bif ((decide ((0:Int)<=a))&&(decide (a<(c.length:Int)))) then (bif (decide ((b++([(de.mk (ix c a).Task (ix c a).Case 0 false false)]:List de)).length*32<=140737488355328)) then (some (Sum.inl ((i64.wrap (a+1)),(b++([(de.mk (ix c a).Task (ix c a).Case 0 false false)]:List de))))) else none) else none) else (Option.map Sum.inr (dE (m4 d) (0,b))))
def rj (a:Bool) (c b:List cI):Option (Bool×List de×Bool×List cI×List cI):=(bif a then (some (true,[],a,c,b)) else (dE (m5 c b) (0,[])))
def oA (p:cR):Option (Int×Bool×Bool×Bool×cD×List Int×List cI×List cI×List de):=((oQ p).bind λc=>(bif (c.Code != 0) then (some (0,false,false,false,c,[],[],[],[])) else ((ow p).bind λb=>((rj p.Closed b.2.1 b.2.2).bind λa=>(some (p.Cap,a.2.2.1,true,a.1,(cD.mk 0 0),b.1,a.2.2.2.1,a.2.2.2.2,a.2.1))))))
def d5 (a:Int) (b:List cz) (c:List Int) (e:List cr) (d:List bV) (f:List cR):Option (Bool×Int×List cz×List Int×List cr×List bV×List cR):=(some (true,a,b,c,e,d,f))
def eZ (l t:Int) (i:dg) (b:List dg) (m:List cR) (a:Int) (k:List cr) (f:List bV) (h:List cR) (e:li) (j:List cz) (g:List Int):Option (Bool×Int×List cz×List Int×List cr×List bV×List cR):=(bif (decide (0<=l/\l<(f.length:Int))) then ((gD t i e.Value e.Ok j k).bind λd=>(bif (decide ((0:Int)<(((ix m i.B).Items.length:Nat):Int))) then ((dG l i.B e.Wakes b a d.1 d.2 f g).bind λc=>(bif (decide (0<=l/\l<(c.2.2.2.2.length:Int))) then (d5 c.1 c.2.1 c.2.2.1 c.2.2.2.1 c.2.2.2.2 h) else none)) else (d5 a d.1 g d.2 f h))) else none)
def eD (m t:Int) (c:dg) (d:List dg) (b:Int) (q:List cz) (n:List cr) (p:List bV) (s:List Int) (k:List cR):Option (Bool×Int×List cz×List Int×List cr×List bV×List cR):=(bif (decide (0<=m/\m<(p.length:Int))) then ((dL t n).bind λi=>(bif (decide (0<=i/\i<(n.length:Int))) then (bif (c.Op==14) then (bif ((decide ((0:Int)<=c.A))&&(decide (c.A<(k.length:Int)))) then (bif ((decide ((0:Int)<=c.B))&&(decide (c.B<((8:Nat):Int)))) then ((mC (ix k c.A) t ((ix n i).r.get c.B) false).bind λe=>(bif ((decide ((0:Int)<=c.A))&&(decide (c.A<(k.length:Int)))) then ((λz1:List cR=>(bif e.2.2.2.1 then ((dI t c.A q).bind λv=>(some (false,2,v,s,n,p,z1))) else (bif (!e.2.2.1) then ((fY t n).bind λl=>(bif (decide (0<=i/\i<(l.2.length:Int))) then (some (l.1,b,q,s,l.2,p,z1)) else none)) else ((dq t c.Op c.A ((ix n i).r.get c.B) q).bind λu=>((dG m c.A e.2.2.2.2.2.2.2.2.2 d b u n p s).bind λh=>(bif (decide (0<=m/\m<(h.2.2.2.2.length:Int))) then (d5 h.1 h.2.1 h.2.2.1 h.2.2.2.1 h.2.2.2.2 z1) else none)))))) (k.set c.A.toNat ((cR.mk e.1 e.2.2.2.2.2.2.1 e.2.1 e.2.2.2.2.2.2.2.1 e.2.2.2.2.2.2.2.2.1):cR))) else none)) else none) else none) else (bif (c.Op==15) then (bif ((decide ((0:Int)<=c.B))&&(decide (c.B<(k.length:Int)))) then (bif ((decide ((0:Int)<=c.B))&&(decide (c.B<(k.length:Int)))) then ((lS (ix k c.B) t false).bind λa=>(bif ((decide ((0:Int)<=c.B))&&(decide (c.B<(k.length:Int)))) then ((λz0:List cR=>(bif (!a.2.2.1) then ((fY t n).bind λo=>(some (o.1,b,q,s,o.2,p,z0))) else (bif (!(decide ((0:Int)<(((ix k c.B).Items.length:Nat):Int)))) then ((dG m c.B a.2.2.2.2.2.2.2.2.2.2 d b q n p s).bind λj=>(bif (decide (0<=m/\m<(j.2.2.2.2.length:Int))) then (eZ m t c d k j.1 j.2.2.2.1 j.2.2.2.2 z0 (li.mk a.2.2.1 false a.2.2.2.1 a.2.2.2.2.1 a.2.2.2.2.2.1 a.2.2.2.2.2.2.2.2.2.2) j.2.1 j.2.2.1) else none)) else (eZ m t c d k b n p z0 (li.mk a.2.2.1 false a.2.2.2.1 a.2.2.2.2.1 a.2.2.2.2.2.1 a.2.2.2.2.2.2.2.2.2.2) q s)))) (k.set c.B.toNat ((cR.mk a.1 a.2.2.2.2.2.2.2.1 a.2.1 a.2.2.2.2.2.2.2.2.1 a.2.2.2.2.2.2.2.2.2.1):cR))) else none)) else none) else none) else (bif (c.Op==16) then (bif ((decide ((0:Int)<=c.A))&&(decide (c.A<(k.length:Int)))) then ((oA (ix k c.A)).bind λf=>(bif ((decide ((0:Int)<=c.A))&&(decide (c.A<(k.length:Int)))) then ((λz2:List cR=>(bif f.2.2.2.1 then ((dI t c.A q).bind λx=>(some (false,2,x,s,n,p,z2))) else ((dq t c.Op c.A 0 q).bind λw=>((dG m c.A f.2.2.2.2.2.2.2.2 d b w n p s).bind λg=>(bif (decide (0<=m/\m<(g.2.2.2.2.length:Int))) then (d5 g.1 g.2.1 g.2.2.1 g.2.2.2.1 g.2.2.2.2 z2) else none))))) (k.set c.A.toNat ((cR.mk f.1 f.2.2.2.2.2.1 f.2.1 f.2.2.2.2.2.2.1 f.2.2.2.2.2.2.2.1):cR))) else none)) else none) else (d5 b q s n p k)))) else none)) else none)
def jS (a b:Int):Option (cD):=(some ((cD.mk a b)))
def nL (l:dj):Int×(List (Int×Int))->Option (((Int×(List (Int×Int))) ⊕ (cD))):=λ(a,b)=>(bif (decide (a<(l.Line.length:Int))) then (bif ((decide ((0:Int)<=a))&&(decide (a<(l.Line.length:Int)))) then (bif (decide ((ix l.Line a).Task<1)) then ((jS 3 (i64.wrap (a+1))).bind λe=>(Option.map Sum.inr (some (e)))) else (bif (decide ((0:Int)<(fU b (ix l.Line a).Task))) then ((jS 10 (i64.wrap (a+1))).bind λd=>(Option.map Sum.inr (some (d)))) else (bif ((ix l.Line a).N != 0) then ((jS 5 (i64.wrap (a+1))).bind λc=>(Option.map Sum.inr (some (c)))) else (some (Sum.inl ((i64.wrap (a+1)),(iv b (ix l.Line a).Task 1))))))) else none) else (Option.map Sum.inr (some ((cD.mk 0 0)))))
def oS (l:dj):Option (cD):=(bif (decide ((5000:Int)<(l.Line.length:Int))) then ((jS 2 0).bind λc=>(some (c))) else (bif ((decide (l.Readers<0))||(decide ((1000000000:Int)<l.Readers))) then ((jS 3 0).bind λa=>(some (a))) else (bif ((!((((l.Writer&&(!(decide ((0:Int)<l.Readers))))&&(decide ((0:Int)<(l.Line.length:Int))))&&(!l.Writer))&&(!(l.Readers==0))))||(decide ((0:Int)<(l.Line.length:Int)))) then (bif ((!((((!l.Writer)&&(decide ((0:Int)<(l.Line.length:Int))))&&(!l.Writer))&&(!(l.Readers==0))))||(decide ((0:Int)<(l.Line.length:Int)))) then (bif (bif l.Writer then ((decide ((0:Int)<l.Readers))||((decide ((0:Int)<(l.Line.length:Int)))&&((!l.Writer)&&((l.Readers==0)||(!(ix l.Line (0:Int)).Write))))) else ((decide ((0:Int)<(l.Line.length:Int)))&&((!l.Writer)&&((l.Readers==0)||(!(ix l.Line (0:Int)).Write))))) then ((jS 5 0).bind λb=>(some (b))) else (dE (nL l) (0,[]))) else none) else none)))
def qo (w:dR) (a:Int):Option (Bool):=(some ((w.Task==a)))
def iC (s:List dR) (f:Int):Int->Option (((Int) ⊕ (Int))):=λa=>(bif (decide (a<(s.length:Int))) then (bif ((decide ((0:Int)<=a))&&(decide (a<(s.length:Int)))) then ((qo (ix s a) f).bind λb=>(bif b then (Option.map Sum.inr (some (a))) else (some (Sum.inl ((i64.wrap (a+1))))))) else none) else (Option.map Sum.inr (some ((-1)))))
def kU (s:List dR) (f:Int):Option (Int):=(dE (iC s f) (0))
def iD (s:List dR) (f:Int):Option (Bool):=((kU s f).bind λa=>(some ((decide ((0:Int)<=a)))))
def mU (s:List dR):Option ((List dR)):=(bif (decide ((([]:List dR)++s).length*24<=140737488355328)) then (some ((([]:List dR)++s))) else none)
def lD (l:dj):Option ((List dR)):=((mU l.Line).bind λa=>(some (a)))
def n7 (d:List Int) (a:Int) (b:Bool) (c:List dR):Option ((List Int)×Int×Bool×List dR):=(some (d,a,b,c))
def jT:Int×Bool×List Int×(List dR)->Option (((Int×Bool×List Int×List dR) ⊕ ((List Int)×Int×Bool×List dR))):=λ(b,c,d,a)=>(bif ((decide ((0:Int)<(a.length:Int)))&&(!c)) then (bif (decide ((0:Int)<(a.length:Int))) then (bif ((ix a (0:Int)).Write&&(decide ((0:Int)<b))) then (Option.map Sum.inr (n7 d b c a)) else (bif (decide ((1:Int)<=(a.length:Int))) then (bif (decide ((d++([(ix a (0:Int)).Task]:List Int)).length*8<=140737488355328)) then (bif (!(ix a (0:Int)).Write) then (some (Sum.inl ((i64.wrap (b+1)),(ix a (0:Int)).Write,(d++([(ix a (0:Int)).Task]:List Int)),(cut a (1:Int) (a.length:Int))))) else (some (Sum.inl (b,(ix a (0:Int)).Write,(d++([(ix a (0:Int)).Task]:List Int)),(cut a (1:Int) (a.length:Int)))))) else none) else none)) else none) else (Option.map Sum.inr (n7 d b c a)))
def kM (a:Int) (b:Bool) (c:List dR):Option ((List Int)×Int×Bool×List dR):=(dE jT (a,b,[],c))
def mD (l:dj) (b:Int) (c m:Bool):Option (Int×Bool×Bool×cD×List dR):=((oS l).bind λe=>(bif (e.Code != 0) then (some (0,false,false,e,[])) else (bif (decide (b<1)) then ((jS 3 (-1)).bind λj=>(some (0,false,false,j,[]))) else ((iD l.Line b).bind λi=>(bif i then ((jS 10 (-1)).bind λg=>(some (0,false,false,g,[]))) else (bif (((l.Line.length:Int)==5000)||(l.Readers==1000000000)) then ((jS 9 0).bind λh=>(some (0,false,false,h,[]))) else ((lD l).bind λd=>(bif (decide ((d++([(dR.mk b c 0)]:List dR)).length*24<=140737488355328)) then ((kM l.Readers l.Writer (d++([(dR.mk b c 0)]:List dR))).bind λa=>((ic a.1 b).bind λk=>(bif k then (some (a.2.1,a.2.2.1,true,(cD.mk 0 0),a.2.2.2)) else (bif m then ((lD l).bind λf=>(some (l.Readers,l.Writer,false,(cD.mk 0 0),f))) else (some (a.2.1,a.2.2.1,false,(cD.mk 0 0),a.2.2.2)))))) else none))))))))
def nM (b:Int) (c:Bool) (d:List dR):Option (Int×Bool×Bool×cD×List dR×List Int):=((kM b c d).bind λa=>(some (a.2.1,a.2.2.1,false,(cD.mk 0 0),a.2.2.2,a.1)))
def nA (l:dj) (a:Bool):Option (Int×Bool×Bool×cD×List dR×List Int):=((oS l).bind λc=>(bif (c.Code != 0) then (some (0,false,false,c,[],[])) else (bif (bif a then ((!l.Writer)||((!a)&&(l.Readers==0))) else ((!a)&&(l.Readers==0))) then ((lD l).bind λd=>(some (l.Readers,l.Writer,true,(cD.mk 0 0),d,[]))) else ((lD l).bind λb=>(bif a then (nM l.Readers false b) else (nM (i64.wrap (l.Readers-1)) l.Writer b))))))
def jj (a b:Int):Option (cD):=(some ((cD.mk a b)))
def qp (l:List Int):Int×(List (Int×Int))->Option (((Int×(List (Int×Int))) ⊕ (cD))):=λ(a,b)=>(bif (decide (a<(l.length:Int))) then (bif ((decide ((0:Int)<=a))&&(decide (a<(l.length:Int)))) then (bif (decide ((ix l a)<1)) then ((jj 3 (i64.wrap (a+1))).bind λd=>(Option.map Sum.inr (some (d)))) else (bif (decide ((0:Int)<(fU b (ix l a)))) then ((jj 10 (i64.wrap (a+1))).bind λc=>(Option.map Sum.inr (some (c)))) else (some (Sum.inl ((i64.wrap (a+1)),(iv b (ix l a) 1)))))) else none) else (Option.map Sum.inr (some ((cD.mk 0 0)))))
def rL (l:List Int):Option (cD):=(bif (decide ((5000:Int)<(l.length:Int))) then ((jj 2 0).bind λa=>(some (a))) else (dE (qp l) (0,[])))
def oT (g:cY):Option (cD):=((rL g.Line).bind λa=>(bif (a.Code != 0) then (some (a)) else (bif ((decide (g.Count<0))||(decide ((1000000000:Int)<g.Count))) then ((jj 3 0).bind λb=>(some (b))) else (bif ((g.Count==0)&&(decide ((0:Int)<(g.Line.length:Int)))) then ((jj 5 0).bind λc=>(some (c))) else (some ((cD.mk 0 0)))))))
def nB (g:cY) (n:Int):Option (Int×Bool×cD×List Int×List Int):=((oT g).bind λb=>(bif (b.Code != 0) then (some (0,false,b,[],[])) else (bif ((decide (n<(-1000000000)))||(decide ((1000000000:Int)<n))) then ((jj 3 (-1)).bind λc=>(some (0,false,c,[],[]))) else ((fe g.Line).bind λa=>(bif (decide ((i64.wrap (g.Count+n))<0)) then (some (g.Count,true,(cD.mk 0 0),a,[])) else (bif (decide ((1000000000:Int)<(i64.wrap (g.Count+n)))) then ((jj 9 0).bind λd=>(some (0,false,d,[],[]))) else (bif ((i64.wrap (g.Count+n))==0) then (some (0,false,(cD.mk 0 0),[],a)) else (some ((i64.wrap (g.Count+n)),false,(cD.mk 0 0),a,[])))))))))
def qq (l:List Int) (a:Int):Option (cD):=(bif (decide (a<1)) then ((jj 3 (-1)).bind λb=>(some (b))) else ((ic l a).bind λd=>(bif d then ((jj 10 (-1)).bind λc=>(some (c))) else (bif ((l.length:Int)==5000) then ((jj 9 0).bind λe=>(some (e))) else (some ((cD.mk 0 0)))))))
def mj (g:cY) (a:List Int):Option (Int×Bool×cD×List Int):=(some (g.Count,(g.Count==0),(cD.mk 0 0),a))
def nN (g:cY) (b:Int) (c:cD):Option (Int×Bool×cD×List Int):=(bif (c.Code != 0) then (some (0,false,c,[])) else ((fe g.Line).bind λa=>(bif (decide ((0:Int)<g.Count)) then (bif (decide ((a++([b]:List Int)).length*8<=140737488355328)) then (mj g (a++([b]:List Int))) else none) else (mj g a))))
def nC (g:cY) (a:Int):Option (Int×Bool×cD×List Int):=((oT g).bind λb=>(bif (b.Code==0) then ((qq g.Line a).bind λc=>(nN g a c)) else (nN g a b)))
def fp (a:Int) (f:List cz) (d:List Int) (e:List cr) (g:List bV) (b:List dj) (c:List cY):Option (Bool×Int×List cz×List Int×List cr×List bV×List dj×List cY):=(some (true,a,f,d,e,g,b,c))
def hU (n:Int) (o:dg) (a:List dg) (e:Int) (p:List cY):Int×Int×List cr×List bV×List dj×List Int×List cz×(List Int)->Option (((Int×Int×List cr×List bV×List dj×List Int×List cz×List Int) ⊕ (Bool×Int×List cz×List Int×List cr×List bV×List dj×List cY))):=λ(h,b,c,i,k,d,j,l)=>(bif (decide (0<=n/\n<(i.length:Int))) then (bif (decide (b<h)) then (bif ((decide ((0:Int)<=b))&&(decide (b<(d.length:Int)))) then ((dL (ix d b) c).bind λf=>(bif (decide (0<=f/\f<(c.length:Int))) then (bif ((decide ((0:Int)<=(ix c f).pc))&&(decide ((ix c f).pc<(a.length:Int)))) then ((dq (ix d b) 17 o.A (ix a (ix c f).pc).B j).bind λm=>((fV n (ix d b) c i l).bind λg=>(bif (decide (0<=n/\n<(g.2.2.length:Int))) then (some (Sum.inl (h,(i64.wrap (b+1)),g.2.1,g.2.2,k,d,m,g.1))) else none))) else none) else none)) else none) else (Option.map Sum.inr (fp e j l c i k p))) else none)
def hX (l:Int) (m:dg) (b:Int) (n:List dj):Int×Int×List cr×List bV×List cY×List Int×List cz×(List Int)->Option (((Int×Int×List cr×List bV×List cY×List Int×List cz×List Int) ⊕ (Bool×Int×List cz×List Int×List cr×List bV×List dj×List cY))):=λ(e,a,j,f,g,c,i,h)=>(bif (decide (0<=l/\l<(f.length:Int))) then (bif (decide (a<e)) then (bif ((decide ((0:Int)<=a))&&(decide (a<(c.length:Int)))) then ((dq (ix c a) 20 m.A 0 i).bind λk=>((fV l (ix c a) j f h).bind λd=>(bif (decide (0<=l/\l<(d.2.2.length:Int))) then (some (Sum.inl (e,(i64.wrap (a+1)),d.2.1,d.2.2,g,c,k,d.1))) else none))) else none) else (Option.map Sum.inr (fp b i h j f n g))) else none)
def eV (y t:Int) (b:dg) (g:List dg) (a:Int) (o:List cz) (k:List cr) (n:List bV) (p:List Int) (d:List dj) (f:List cY):Option (Bool×Int×List cz×List Int×List cr×List bV×List dj×List cY):=(bif (decide (0<=y/\y<(n.length:Int))) then ((dL t k).bind λj=>(bif (decide (0<=j/\j<(k.length:Int))) then (bif (b.Op==17) then (bif ((decide ((0:Int)<=b.A))&&(decide (b.A<(d.length:Int)))) then ((mD (ix d b.A) t (b.B==1) false).bind λe=>(bif ((decide ((0:Int)<=b.A))&&(decide (b.A<(d.length:Int)))) then ((λz1:List dj=>(bif (!e.2.2.1) then ((fY t k).bind λl=>(some (l.1,a,o,p,l.2,n,z1,f))) else ((dq t b.Op b.A b.B o).bind λs=>(fp a s p k n z1 f)))) (d.set b.A.toNat ((dj.mk e.1 e.2.1 e.2.2.2.2):dj))) else none)) else none) else (bif (b.Op==18) then (bif ((decide ((0:Int)<=b.A))&&(decide (b.A<(d.length:Int)))) then ((nA (ix d b.A) (b.B==1)).bind λc=>(bif ((decide ((0:Int)<=b.A))&&(decide (b.A<(d.length:Int)))) then ((λz0:List dj=>(bif c.2.2.1 then ((dI t b.A o).bind λq=>(some (false,2,q,p,k,n,z0,f))) else ((dq t b.Op b.A b.B o).bind λx=>(dE (hU y b g a f) ((c.2.2.2.2.2.length:Int),0,k,n,z0,c.2.2.2.2.2,x,p))))) (d.set b.A.toNat ((dj.mk c.1 c.2.1 c.2.2.2.2.1):dj))) else none)) else none) else (bif (b.Op==19) then (bif ((decide ((0:Int)<=b.A))&&(decide (b.A<(f.length:Int)))) then (bif ((decide ((0:Int)<=b.B))&&(decide (b.B<((8:Nat):Int)))) then ((nB (ix f b.A) ((ix k j).r.get b.B)).bind λh=>(bif (h.2.1||(h.2.2.1.Code != 0)) then ((dI t b.A o).bind λw=>(some (false,2,w,p,k,n,d,f))) else (bif ((decide ((0:Int)<=b.A))&&(decide (b.A<(f.length:Int)))) then ((dq t b.Op b.A ((ix k j).r.get b.B) o).bind λv=>(dE (hX y b a d) ((h.2.2.2.2.length:Int),0,k,n,(f.set b.A.toNat ((cY.mk h.1 h.2.2.2.1):cY)),h.2.2.2.2,v,p))) else none))) else none) else none) else (bif (b.Op==20) then (bif ((decide ((0:Int)<=b.A))&&(decide (b.A<(f.length:Int)))) then ((nC (ix f b.A) t).bind λi=>(bif ((decide ((0:Int)<=b.A))&&(decide (b.A<(f.length:Int)))) then (bif (!i.2.1) then ((fY t k).bind λm=>(some (m.1,a,o,p,m.2,n,d,(f.set b.A.toNat ((cY.mk i.1 i.2.2.2):cY))))) else ((dq t b.Op b.A 0 o).bind λu=>(fp a u p k n d (f.set b.A.toNat ((cY.mk i.1 i.2.2.2):cY))))) else none)) else none) else (fp a o p k n d f))))) else none)) else none)
def eS (a b:Int) (j:List cR) (h:List dj) (i:List cY) (c:List cz) (e:List cr) (d g:List Int) (f:List bV):Option (Bool×Int×Int×List cz×List cr×List Int×List Int×List bV×List cR×List dj×List cY):=(some (true,a,b,c,e,d,g,f,j,h,i))
def ju (b:Int) (i:List Int) (j:List bV) (h:List Int) (g:List cR) (e:List dj) (f:List cY) (a:Int) (c:List cz) (d:List cr):Option (Bool×Int×Int×List cz×List cr×List Int×List Int×List bV×List cR×List dj×List cY):=(some (false,a,b,c,d,h,i,j,g,e,f))
def ew (m t:Int) (i:dg) (h:List dg) (d c e:Int) (u:List cz) (s:List Int) (b:List cr) (o:List bV) (v:List Int) (q:List cR) (j:List dj) (k:List cY) (a:Int) (l:Bool):Option (Bool×Int×Int×List cz×List cr×List Int×List Int×List bV×List cR×List dj×List cY):=(bif (decide (0<=m/\m<(o.length:Int))) then (bif (decide (0<=a/\a<(b.length:Int))) then (bif l then ((eV m t i h d u b o v j k).bind λf=>(bif (decide (0<=m/\m<(f.2.2.2.2.2.1.length:Int))) then (bif (decide (0<=a/\a<(f.2.2.2.2.1.length:Int))) then (some (f.1,f.2.1,e,f.2.2.1,f.2.2.2.2.1,f.2.2.2.1,s,f.2.2.2.2.2.1,q,f.2.2.2.2.2.2.1,f.2.2.2.2.2.2.2)) else none) else none)) else (bif (i.Op==21) then (bif ((decide ((0:Int)<=i.A))&&(decide (i.A<((8:Nat):Int)))) then (bif (decide ((1000000000:Int)<((ix b a).r.get i.A))) then ((dI t 0 u).bind λn=>(some (false,2,e,n,b,v,s,o,q,j,k))) else (bif (decide (((ix b a).r.get i.A)<1)) then ((iZ m t b o v).bind λg=>(bif (decide (0<=m/\m<(g.2.2.2.length:Int))) then (bif (decide (0<=a/\a<(g.2.2.1.length:Int))) then (some (g.1,d,e,u,g.2.2.1,g.2.1,s,g.2.2.2,q,j,k)) else none) else none)) else ((λz0:List cr=>((λz1:List cr=>((λz2:List cr=>(some (false,d,(i64.wrap (e+1)),u,(z2.set a.toNat ((cr.mk (ix z2 a).pc (ix z2 a).r (ix z2 a).state (ix z2 a).when (i64.wrap (e+1))):cr)),v,s,o,q,j,k))) (z1.set a.toNat ((cr.mk (ix z1 a).pc (ix z1 a).r (ix z1 a).state (i64.wrap (c+((ix b a).r.get i.A))) (ix z1 a).seq):cr)))) (z0.set a.toNat ((cr.mk (ix z0 a).pc (ix z0 a).r 2 (ix z0 a).when (ix z0 a).seq):cr)))) (b.set a.toNat ((cr.mk (i64.wrap ((ix b a).pc+1)) (ix b a).r (ix b a).state (ix b a).when (ix b a).seq):cr))))) else none) else (bif (i.Op==22) then ((dI t 0 u).bind λp=>(some (false,2,e,p,b,v,s,o,q,j,k))) else (eS d e q j k u b v s o)))) else none) else none)
def fC (k t:Int) (f:dg) (a:List dg) (b c d:Int) (q:List cz) (p:List Int) (l:List cr) (m:List bV) (o:List Int) (n:List cR) (h:List dj) (i:List cY) (g:Int) (j:Bool):Option (Bool×Int×Int×List cz×List cr×List Int×List Int×List bV×List cR×List dj×List cY):=(bif (decide (0<=k/\k<(m.length:Int))) then (bif (decide (0<=g/\g<(l.length:Int))) then (bif j then ((eD k t f a b q l m o n).bind λe=>(bif (decide (0<=k/\k<(e.2.2.2.2.2.1.length:Int))) then (bif (decide (0<=g/\g<(e.2.2.2.2.1.length:Int))) then (some (e.1,e.2.1,d,e.2.2.1,e.2.2.2.2.1,e.2.2.2.1,p,e.2.2.2.2.2.1,e.2.2.2.2.2.2,h,i)) else none) else none)) else (bif (f.Op==17) then (ew k t f a b c d q p l m o n h i g (f.Op==17)) else (bif (f.Op==18) then (ew k t f a b c d q p l m o n h i g (f.Op==18)) else (bif (f.Op==19) then (ew k t f a b c d q p l m o n h i g (f.Op==19)) else (ew k t f a b c d q p l m o n h i g (f.Op==20)))))) else none) else none)
def dC (p t:Int) (c:dg) (e:List dg) (b f d:Int) (s:List cz) (l:List Int) (g:List cr) (m:List bV) (q:List Int) (n:List cR) (i:List dj) (j:List cY):Option (Bool×Int×Int×List cz×List cr×List Int×List Int×List bV×List cR×List dj×List cY):=(bif (decide (0<=p/\p<(m.length:Int))) then ((dL t g).bind λa=>(bif (decide (0<=a/\a<(g.length:Int))) then (bif (c.Op==8) then (bif ((decide ((0:Int)<=c.A))&&(decide (c.A<((8:Nat):Int)))) then ((dq t c.Op 0 ((ix g a).r.get c.A) s).bind λu=>(eS b d n i j u g q l m)) else none) else (bif (c.Op==9) then ((dq t c.Op 0 0 s).bind λo=>((λz1:List cr=>(bif (t==1) then (ju d l m q n i j 1 o z1) else (ju d l m q n i j b o z1))) (g.set a.toNat ((cr.mk (ix g a).pc (ix g a).r 3 (ix g a).when (ix g a).seq):cr)))) else (bif (c.Op==10) then ((iZ p t g m q).bind λh=>(bif (decide (0<=p/\p<(h.2.2.2.length:Int))) then (bif (decide (0<=a/\a<(h.2.2.1.length:Int))) then (some (h.1,b,d,s,h.2.2.1,h.2.1,l,h.2.2.2,n,i,j)) else none) else none)) else (bif (c.Op==11) then (bif ((g.length:Int)==64) then (some (false,4,d,s,g,q,l,m,n,i,j)) else (bif ((decide ((0:Int)<=c.B))&&(decide (c.B<((8:Nat):Int)))) then (bif (decide ((g++[((cr.mk c.A ((default:(dn 8)).set (0:Int) ((ix g a).r.get c.B)) 0 0 0):cr)]).length*8<=140737488355328)) then ((dq t c.Op 0 (((g++[((cr.mk c.A ((default:(dn 8)).set (0:Int) ((ix g a).r.get c.B)) 0 0 0):cr)]).length:Nat):Int) s).bind λx=>((i4 p (((g++[((cr.mk c.A ((default:(dn 8)).set (0:Int) ((ix g a).r.get c.B)) 0 0 0):cr)]).length:Nat):Int) (g++[((cr.mk c.A ((default:(dn 8)).set (0:Int) ((ix g a).r.get c.B)) 0 0 0):cr)]) m q).bind λk=>(bif (decide (0<=p/\p<(k.2.2.length:Int))) then (eS b d n i j x k.2.1 k.1 l k.2.2) else none))) else none) else none)) else (bif (c.Op==12) then (bif ((decide ((0:Int)<=c.B))&&(decide (c.B<(l.length:Int)))) then (bif ((decide ((0:Int)<=c.A))&&(decide (c.A<((8:Nat):Int)))) then ((λz0:List cr=>((dq t c.Op c.B ((ix z0 a).r.get c.A) s).bind λv=>(eS b d n i j v z0 q l m))) (g.set a.toNat ((cr.mk (ix g a).pc ((ix g a).r.set c.A (ix l c.B)) (ix g a).state (ix g a).when (ix g a).seq):cr))) else none) else none) else (bif (c.Op==13) then (bif ((decide ((0:Int)<=c.B))&&(decide (c.B<((8:Nat):Int)))) then (bif ((decide ((0:Int)<=c.A))&&(decide (c.A<(l.length:Int)))) then ((dq t c.Op c.A ((ix g a).r.get c.B) s).bind λw=>(eS b d n i j w g q (l.set c.A.toNat ((ix g a).r.get c.B)) m)) else none) else none) else (bif (c.Op==14) then (fC p t c e b f d s l g m q n i j a (c.Op==14)) else (bif (c.Op==15) then (fC p t c e b f d s l g m q n i j a (c.Op==15)) else (fC p t c e b f d s l g m q n i j a (c.Op==16)))))))))) else none)) else none)
def ek (p:Int) (e:List dg) (s:List cz) (b f g:Int) (q:List Int) (l:List cr) (o:List cR) (m:List dj) (n:List cY) (h:List bV) (j:List Int) (c:Int) (i:dg):Option (Int×Int×List cz×List cr×List Int×List Int×List bV×List cR×List dj×List cY):=(bif (decide (0<=p/\p<(h.length:Int))) then (bif (decide (0<=c/\c<(l.length:Int))) then ((oP i.Op).bind λk=>(bif k then ((mh i (ix l c).pc c l).bind λd=>(bif (decide (d.2.length=l.length)) then (bif (decide (0<=c/\c<(d.2.length:Int))) then (some (b,g,s,(d.2.set c.toNat ((cr.mk d.1 (ix d.2 c).r (ix d.2 c).state (ix d.2 c).when (ix d.2 c).seq):cr)),j,q,h,o,m,n)) else none) else none)) else ((dC p (ix h p).now i e b f g s q l h j o m n).bind λa=>(bif (decide (0<=p/\p<(a.2.2.2.2.2.2.2.1.length:Int))) then (bif (decide (0<=c/\c<(a.2.2.2.2.1.length:Int))) then (bif a.1 then (some (a.2.1,a.2.2.1,a.2.2.2.1,(a.2.2.2.2.1.set c.toNat ((cr.mk (i64.wrap ((ix a.2.2.2.2.1 c).pc+1)) (ix a.2.2.2.2.1 c).r (ix a.2.2.2.2.1 c).state (ix a.2.2.2.2.1 c).when (ix a.2.2.2.2.1 c).seq):cr)),a.2.2.2.2.2.1,a.2.2.2.2.2.2.1,a.2.2.2.2.2.2.2.1,a.2.2.2.2.2.2.2.2.1,a.2.2.2.2.2.2.2.2.2.1,a.2.2.2.2.2.2.2.2.2.2)) else (bif (((ix a.2.2.2.2.2.2.2.1 p).now==(ix h p).now)&&((ix a.2.2.2.2.1 c).state != 0)) then (some (a.2.1,a.2.2.1,a.2.2.2.1,a.2.2.2.2.1,a.2.2.2.2.2.1,a.2.2.2.2.2.2.1,(a.2.2.2.2.2.2.2.1.set p.toNat ((bV.mk 0 (ix a.2.2.2.2.2.2.2.1 p).Ring_Next (ix a.2.2.2.2.2.2.2.1 p).Ring_List):bV)),a.2.2.2.2.2.2.2.2.1,a.2.2.2.2.2.2.2.2.2.1,a.2.2.2.2.2.2.2.2.2.2)) else (some (a.2.1,a.2.2.1,a.2.2.2.1,a.2.2.2.2.1,a.2.2.2.2.2.1,a.2.2.2.2.2.2.1,a.2.2.2.2.2.2.2.1,a.2.2.2.2.2.2.2.2.1,a.2.2.2.2.2.2.2.2.2.1,a.2.2.2.2.2.2.2.2.2.2)))) else none) else none)))) else none) else none)
def ga (p:Int) (a:List dg) (n:List cz) (b c e:Int) (m:List Int) (h:List cr) (l:List cR) (i:List dj) (j:List cY) (k:Bool) (f:List bV) (g:List Int):Option (Int×Int×List cz×List cr×List Int×List Int×List bV×List cR×List dj×List cY):=(bif (decide (0<=p/\p<(f.length:Int))) then (bif k then (some (b,e,n,h,g,m,f,l,i,j)) else ((dL (ix f p).now h).bind λd=>(bif (decide (0<=d/\d<(h.length:Int))) then (bif (decide ((ix h d).pc<(a.length:Int))) then (bif ((decide ((0:Int)<=(ix h d).pc))&&(decide ((ix h d).pc<(a.length:Int)))) then (ek p a n b c e m h l i j f g d (ix a (ix h d).pc)) else none) else (ek p a n b c e m h l i j f g d (dg.mk 9 0 0))) else none))) else none)
def gp (p:Int) (a:List dg) (g:Int) (i:List Int) (h f:Int) (q:List cz) (b j c:Int) (t:List Int) (d:Int) (o:List Int) (r:List cr) (m:List bV) (s:List Int) (n:List cR) (k:List dj) (l:List cY):Option (Int×Int×List cz×List cr×List Int×List Int×List bV×List cR×List dj×List cY):=(bif ((decide ((0:Int)<=p))&&(decide (p<(m.length:Int)))) then (bif ((ix m p).now==0) then ((gm p m s).bind λe=>(bif (decide (0<=p/\p<(e.2.2.length:Int))) then (ga p a q b c d o r n k l (!e.1) e.2.2 e.2.1) else none)) else (ga p a q b c d o r n k l false m s)) else none)
def iP (a:Int) (b:List cr):Option (Bool):=(bif (decide (0<=a/\a<(b.length:Int))) then (some ((((ix b a).state==0)||((ix b a).state==2)))) else none)
def gc (c:List cr):Int->Option (((Int) ⊕ (Int))):=λa=>(bif (decide (a<(c.length:Int))) then (bif ((decide ((0:Int)<=a))&&(decide (a<(c.length:Int)))) then ((iP a c).bind λb=>(bif b then (Option.map Sum.inr (some (a))) else (some (Sum.inl ((i64.wrap (a+1))))))) else none) else (Option.map Sum.inr (some ((-1)))))
def ka (a:List cr):Option (Int):=(dE (gc a) (0))
def jk (b:List cr):Option (Bool):=((ka b).bind λa=>(some ((decide ((0:Int)<=a)))))
def jv (b:List cr):Option (Bool):=((jk b).bind λa=>(some ((!a))))
def nO (b c d:Int) (h:List cz) (g:List Int) (e:List cr):Int×(List Int)->Option (((Int×List Int) ⊕ (Int×Int×Int×cD×List cz×List Int×List Int))):=λ(a,f)=>(bif (decide (a<(e.length:Int))) then (bif ((decide ((0:Int)<=a))&&(decide (a<(e.length:Int)))) then (bif (decide ((f++([(ix e a).state]:List Int)).length*8<=140737488355328)) then (some (Sum.inl ((i64.wrap (a+1)),(f++([(ix e a).state]:List Int))))) else none) else none) else (Option.map Sum.inr (some (b,c,d,(cD.mk 0 0),h,f,g))))
def ml (a b c:Int) (g:List cz) (e d:List Int) (f:List cr):Option (Int×Int×Int×cD×List cz×List Int×List Int):=(dE (nO a b c g d f) (0,e))
def mn (i a:Int) (h:List Int) (b c d:Int) (m:List cz) (g:List Int) (n:List cr) (l:List bV) (k:List Int) (j:List cR) (e:List dj) (f:List cY):Option (((Int×Int×Int×Int×Int×List cz×List Int×List Int×List cr×List bV×List Int×List cR×List dj×List cY) ⊕ (Int×Int×Int×cD×List cz×List Int×List Int))):=(some (Sum.inl ((i64.wrap (i+1)),b,(i64.wrap (a+1)),c,d,m,h,g,n,l,k,j,e,f)))
def mo (i a:Int) (h:List Int) (c b d:Int) (n:List cz) (k:List Int) (j:List cr) (m:List bV) (g:List Int) (l:List cR) (f:List dj) (e:List cY) (o:Bool):Option (((Int×Int×Int×Int×Int×List cz×List Int×List Int×List cr×List bV×List Int×List cR×List dj×List cY) ⊕ (Int×Int×Int×cD×List cz×List Int×List Int))):=(bif o then (mn i a h 3 b d n k j m g l f e) else (mn i a h c b d n k j m g l f e))
def mq (j b:Int) (i:List Int) (a c d:Int) (n:List cz) (k:List Int) (e:List cr) (m:List bV) (h:List Int) (l:List cR) (g:List dj) (f:List cY):Option (((Int×Int×Int×Int×Int×List cz×List Int×List Int×List cr×List bV×List Int×List cR×List dj×List cY) ⊕ (Int×Int×Int×cD×List cz×List Int×List Int))):=(bif (a==0) then ((jv e).bind λo=>(mo j b i a c d n k e m h l g f o)) else (mo j b i a c d n k e m h l g f false))
def iG (p:cy) (g:List Int):Int×Int×Int×Int×Int×List cz×List Int×List Int×List cr×List bV×List Int×List cR×List dj×(List cY)->Option (((Int×Int×Int×Int×Int×List cz×List Int×List Int×List cr×List bV×List Int×List cR×List dj×List cY) ⊕ (Int×Int×Int×cD×List cz×List Int×List Int))):=λ(e,b,a,c,f,j,h,i,k,r,o,q,m,n)=>(bif (decide (e<(g.length:Int))) then (bif ((decide ((0:Int)<=e))&&(decide (e<(g.length:Int)))) then (bif (b != 0) then (Option.map Sum.inr (ml b a c j h i k)) else (bif (decide ((ix g e)<0)) then ((jR c k o).bind λl=>(mq e a h b l.1 f j i l.2.2 r l.2.1 q m n)) else ((gp (ix g e) p.Code p.Cells p.Pipes p.Locks p.Groups j b (i64.wrap (a+1)) c h f i k r o q m n).bind λd=>(mq e a h d.1 c d.2.1 d.2.2.1 d.2.2.2.2.2.1 d.2.2.2.1 d.2.2.2.2.2.2.1 d.2.2.2.2.1 d.2.2.2.2.2.2.2.1 d.2.2.2.2.2.2.2.2.1 d.2.2.2.2.2.2.2.2.2)))) else none) else (Option.map Sum.inr (ml b a c j h i k)))
def nP (p:cy) (d:Int) (c:List Int):Int->Option (((Int) ⊕ (Int×Int×Int×cD×List cz×List Int×List Int))):=λa=>(bif (decide (a<(c.length:Int))) then (bif ((decide ((0:Int)<=a))&&(decide (a<(c.length:Int)))) then (bif ((decide ((ix c a)<(-1)))||(decide (d<=(ix c a)))) then ((ph 3 a).bind λe=>(Option.map Sum.inr (some (0,0,0,e,[],[],[])))) else (some (Sum.inl ((i64.wrap (a+1)))))) else none) else (Option.map Sum.inr ((lR p d).bind λb=>(dE (iG p c) (0,0,0,0,0,[],[],b.1,b.2.1,b.2.2.1,b.2.2.2.1,b.2.2.2.2.1,b.2.2.2.2.2.1,b.2.2.2.2.2.2)))))
def mF (p:cy) (a:Int) (b:List Int):Option (Int×Int×Int×cD×List cz×List Int×List Int):=((qk p).bind λc=>(bif (c.Code != 0) then (some (0,0,0,c,[],[],[])) else (bif ((decide (a<1))||(decide ((16:Int)<a))) then ((ph 3 (-1)).bind λd=>(some (0,0,0,d,[],[],[]))) else (bif (decide ((5000:Int)<(b.length:Int))) then ((ph 2 (-1)).bind λe=>(some (0,0,0,e,[],[],[]))) else (dE (nP p a b) (0))))))
def i_:Option (Bool):=((mF (cy.mk ([(dg.mk 15 0 0)]:List dg) 0 ([0]:List Int) 0 0) 1 ([0,0]:List Int)).bind λa=>(some (((a.2.2.2.1.Code==0)&&((a.1==3)&&((a.2.1==1)&&((a.2.2.2.2.1.length:Int)==0)))))))
def kb (p:cy):Option (Bool):=(some (((decide ((2000:Int)<(p.Code.length:Int)))||(decide ((2000:Int)<(p.Pipes.length:Int))))))
def gH (a b:Int):Option (cD):=(some ((cD.mk a b)))
def ff (x a:Int):Option (Bool):=(some (((decide ((0:Int)<=x))&&(decide (x<a)))))
def f8 (p:cy) (k x:Int):Option (Bool):=(bif (k==110) then (some (true)) else (bif (k==114) then (ff x 8) else (bif (k==99) then (ff x (p.Code.length:Int)) else (bif (k==109) then (ff x p.Cells) else (bif (k==112) then (ff x (p.Pipes.length:Int)) else (bif (k==108) then (ff x p.Locks) else (bif (k==103) then (ff x p.Groups) else (bif (k==107) then (ff x 2) else (ff x 1)))))))))
def fA (c:Int) (a:Bool):Option (((Int) ⊕ (cD))):=(bif a then ((gH 5 c).bind λb=>(Option.map Sum.inr (some (b)))) else (some (Sum.inl ((i64.wrap (c+1))))))
def dX (p:cy):Int->Option (((Int) ⊕ (cD))):=λa=>(bif (decide (a<(p.Code.length:Int))) then (bif ((decide ((0:Int)<=a))&&(decide (a<(p.Code.length:Int)))) then (bif ((decide ((ix p.Code a).Op<1))||(decide ((22:Int)<(ix p.Code a).Op))) then ((gH 4 a).bind λc=>(Option.map Sum.inr (some (c)))) else (bif ((decide ((0:Int)<=(ix p.Code a).Op))&&(decide ((ix p.Code a).Op<(fX.length:Int)))) then (bif (decide ((0:Int)<((((ix fX (ix p.Code a).Op)).size:Nat):Int))) then ((f8 p ((((ix fX (ix p.Code a).Op)).data.getD ((0:Int)).toNat 0).toNat:Int) (ix p.Code a).A).bind λb=>(bif (!b) then (fA a true) else (bif ((decide ((0:Int)<=(ix p.Code a).Op))&&(decide ((ix p.Code a).Op<(fX.length:Int)))) then (bif (decide ((1:Int)<((((ix fX (ix p.Code a).Op)).size:Nat):Int))) then ((f8 p ((((ix fX (ix p.Code a).Op)).data.getD ((1:Int)).toNat 0).toNat:Int) (ix p.Code a).B).bind λd=>(fA a (!d))) else none) else none))) else none) else none)) else none) else (Option.map Sum.inr (some ((cD.mk 0 0)))))
def fZ (p:cy):Int->Option (((Int) ⊕ (cD))):=λa=>(bif (decide (a<(p.Pipes.length:Int))) then (bif ((decide ((0:Int)<=a))&&(decide (a<(p.Pipes.length:Int)))) then (bif ((!(!(decide ((ix p.Pipes a)<0))))||((decide ((0:Int)<=a))&&(decide (a<(p.Pipes.length:Int))))) then (bif ((decide ((ix p.Pipes a)<0))||(decide ((100:Int)<(ix p.Pipes a)))) then ((gH 8 a).bind λb=>(Option.map Sum.inr (some (b)))) else (some (Sum.inl ((i64.wrap (a+1)))))) else none) else none) else (Option.map Sum.inr (dE (dX p) (0))))
def iE (p:cy):Option (cD):=(bif ((decide ((1000:Int)<(p.Code.length:Int)))||(decide ((20:Int)<(p.Pipes.length:Int)))) then ((gH 2 0).bind λa=>(some (a))) else (bif ((decide (p.Cells<0))||((decide ((20:Int)<p.Cells))||((decide (p.Locks<0))||((decide ((20:Int)<p.Locks))||((decide (p.Groups<0))||(decide ((20:Int)<p.Groups))))))) then ((gH 3 0).bind λb=>(some (b))) else (dE (fZ p) (0))))
def jU (b:Int) (a:cD):Option (((Int×cD) ⊕ (cD))):=(some (Sum.inl ((i64.wrap (b+1)),a)))
def jV (e:Int) (a:List Int):Int×cD->Option (((Int×cD) ⊕ (cD))):=λ(c,b)=>(bif ((decide (c<(a.length:Int)))&&(b.Code==0)) then (bif ((decide ((0:Int)<=c))&&(decide (c<(a.length:Int)))) then (bif ((!(!(decide ((ix a c)<(-1)))))||((decide ((0:Int)<=c))&&(decide (c<(a.length:Int))))) then (bif ((decide ((ix a c)<(-1)))||(decide (e<=(ix a c)))) then ((gH 3 c).bind λd=>(jU c d)) else (jU c b)) else none) else none) else (Option.map Sum.inr (some (b))))
def gL (b:Int) (a:List Int) (c:cD):Option (cD):=(dE (jV b a) (0,c))
def fT (b:Int) (a:List Int) (c:cD):Option (cD):=(bif ((c.Code==0)&&(decide ((5000:Int)<(a.length:Int)))) then ((gH 2 (-1)).bind λd=>(gL b a d)) else (gL b a c))
def jx (p:cy) (a:Int) (b:List Int):Option (cD):=((iE p).bind λc=>(bif ((c.Code==0)&&((decide (a<1))||(decide ((16:Int)<a)))) then ((gH 3 (-1)).bind λd=>(fT a b d)) else (fT a b c)))
def jy (p:cy) (d:Int) (b:List Int) (c:Bool):Option (Int×Int×Int×Bool×List cz×List Int×List Int):=(bif c then (some (0,0,0,false,[],[],[])) else ((mF p d b).bind λa=>(some (a.1,a.2.1,a.2.2.1,(a.2.2.2.1.Code==0),a.2.2.2.2.1,a.2.2.2.2.2.1,a.2.2.2.2.2.2))))
def ig (p:cy) (b:Int) (a:List Int):Option (Int×Int×Int×Bool×List cz×List Int×List Int):=((kb p).bind λc=>(bif c then (jy p b a true) else (bif (decide ((5000:Int)<(a.length:Int))) then (jy p b a true) else ((jx p b a).bind λd=>(jy p b a (d.Code != 0))))))
def kj (c b:List Int):Int->Option (((Int) ⊕ (Bool))):=λa=>(bif (decide (a<(c.length:Int))) then (bif ((decide ((0:Int)<=a))&&(decide (a<(c.length:Int)))) then (bif ((decide ((0:Int)<=a))&&(decide (a<(b.length:Int)))) then (bif ((ix c a) != (ix b a)) then (Option.map Sum.inr (some (false))) else (some (Sum.inl ((i64.wrap (a+1)))))) else none) else none) else (Option.map Sum.inr (some (true))))
def lT (a b:List Int):Option (Bool):=(bif ((a.length:Int) != (b.length:Int)) then (some (false)) else (dE (kj a b) (0)))
def fq (c:jQ) (b a:Int):Option (((Int) ⊕ (Bool))):=(bif (decide (a<=(ix c.Trace b).Obj)) then (Option.map Sum.inr (some (false))) else (some (Sum.inl ((i64.wrap (b+1))))))
def ja (p:cy) (b:jQ) (c:Int) (a:Bool):Option (((Int) ⊕ (Bool))):=(bif a then (fq b c p.Groups) else (bif ((ix b.Trace c).Op==22) then (fq b c 21) else (fq b c 1)))
def jb (p:cy) (b:jQ) (c:Int) (a:Bool):Option (((Int) ⊕ (Bool))):=(bif a then (fq b c p.Locks) else (bif ((ix b.Trace c).Op==19) then (ja p b c ((ix b.Trace c).Op==19)) else (ja p b c ((ix b.Trace c).Op==20))))
def hZ (p:cy) (b:jQ) (c:Int) (a:Bool):Option (((Int) ⊕ (Bool))):=(bif a then (fq b c (p.Pipes.length:Int)) else (bif ((ix b.Trace c).Op==17) then (jb p b c ((ix b.Trace c).Op==17)) else (jb p b c ((ix b.Trace c).Op==18))))
def jc (p:cy) (b:jQ) (c:Int) (a:Bool):Option (((Int) ⊕ (Bool))):=(bif a then (fq b c p.Cells) else (bif ((ix b.Trace c).Op==14) then (hZ p b c ((ix b.Trace c).Op==14)) else (bif ((ix b.Trace c).Op==15) then (hZ p b c ((ix b.Trace c).Op==15)) else (hZ p b c ((ix b.Trace c).Op==16)))))
def h_ (p:cy) (b:jQ):Int->Option (((Int) ⊕ (Bool))):=λa=>(bif (decide (a<(b.Trace.length:Int))) then (bif ((decide ((0:Int)<=a))&&(decide (a<(b.Trace.length:Int)))) then (bif ((decide ((ix b.Trace a).Op<8))||((decide ((22:Int)<(ix b.Trace a).Op))||((decide ((ix b.Trace a).Task<1))||((decide ((64:Int)<(ix b.Trace a).Task))||((decide ((ix b.Trace a).Obj<0))||(decide ((20:Int)<(ix b.Trace a).Obj))))))) then (Option.map Sum.inr (some (false))) else (bif ((ix b.Trace a).Op==12) then (jc p b a ((ix b.Trace a).Op==12)) else (jc p b a ((ix b.Trace a).Op==13)))) else none) else (Option.map Sum.inr (some (true))))
def km (p:cy) (a:jQ):Option (Bool):=(dE (h_ p a) (0))
def ii (h c b e:Int) (a:List cz) (f g d:List Int):Option (((Int×Int×Int×Int×List Int×List cz×List Int×List Int) ⊕ (Bool))):=(bif ((!((ix a h).Op==12))||((decide ((0:Int)<=(ix a h).Obj))&&(decide ((ix a h).Obj<(d.length:Int))))) then (bif (((ix a h).Op==12)&&((ix d (ix a h).Obj) != (ix a h).Value)) then (Option.map Sum.inr (some (false))) else (some (Sum.inl ((i64.wrap (h+1)),c,b,e,d,a,f,g)))) else none)
def gA:Int×Int×Int×Int×List Int×List cz×List Int×(List Int)->Option (((Int×Int×Int×Int×List Int×List cz×List Int×List Int) ⊕ (Bool))):=λ(h,b,c,d,e,a,g,f)=>(bif (decide (h<(a.length:Int))) then (bif ((decide ((0:Int)<=h))&&(decide (h<(a.length:Int)))) then (bif ((ix a h).Op==13) then (bif ((decide ((0:Int)<=(ix a h).Obj))&&(decide ((ix a h).Obj<(e.length:Int)))) then (ii h b c d a g f (e.set (ix a h).Obj.toNat (ix a h).Value)) else none) else (ii h b c d a g f e)) else none) else (Option.map Sum.inr ((lT e f).bind λi=>(some (i)))))
def kE (p:cy) (e:Int) (b:List Int):Option (Bool):=(i_.bind λd=>(bif (!d) then (some (false)) else ((ig p e b).bind λa=>(bif (!a.2.2.2.1) then (some (true)) else ((km p (jQ.mk a.2.2.2.2.1 a.1 a.2.1 a.2.2.1 a.2.2.2.2.2.1 a.2.2.2.2.2.2)).bind λc=>(bif (!c) then (some (false)) else (bif (decide (0<=p.Cells/\p.Cells<=4611686018427387904/\(8:Int)*p.Cells<=140737488355328)) then (dE gA (0,a.1,a.2.1,a.2.2.1,(List.replicate (p.Cells).toNat (default:Int)),a.2.2.2.2.1,a.2.2.2.2.2.1,a.2.2.2.2.2.2)) else none)))))))
end
end Go.Proofs.YthcdpjkgdcpkmaaGreatDoor
