/-
 What laws of the chapter wk compute, and lemmas on it.
 No conditions.
-/
import Derived.Test.YthcdpjkgdcpkmaaGreatDoorwkA4
open Go.IntKind (i64)
set_option linter.unusedSimpArgs false
set_option linter.unusedVariables false
set_option linter.unusedSectionVars false
namespace Go.Proofs.YthcdpjkgdcpkmaaGreatDoor
noncomputable section
open Go Go.Sx
structure dg where
 Op:Int
 A:Int
 B:Int
 deriving Inhabited,DecidableEq
instance : b_ dg:=⟨3,λd=>[.v (.int .i64 d.Op),.v (.int .i64 d.A),.v (.int .i64 d.B)],λ_=>rfl,λ_=>rfl,λ_=>by simp only [ir,SV.st,kR,db]⟩
@[push_cast] theorem Nq (xs:List dg):iW (fl xs)=true:=m5 (λ_=>rfl) xs
@[push_cast] theorem w6:b_.sz dg=3:=rfl
@[push_cast] theorem Mm (d:dg):b_.cells d=[.v (.int .i64 d.Op),.v (.int .i64 d.A),.v (.int .i64 d.B)]:=rfl
@[push_cast] theorem MQ (xs:List dg) (x0:Int) (x1:Int) (x2:Int):fl xs++[.v (.int .i64 x0),.v (.int .i64 x1),.v (.int .i64 x2)]=fl (xs++[dg.mk x0 x1 x2]):=by rw [fH];rfl
@[push_cast] theorem Mn (xs:List dg) (i:Int):(fl xs).getD (i.toNat*3) (.v (.int .i64 0)) = .v (.int .i64 (ix xs i).Op):=by
 have:=fp xs i 0 (by decide) (.v (.int .i64 0):SV) rfl
 rw [w6,eG] at this
 exact this
@[push_cast] theorem MR (xs:List dg) (i:Int):(fl xs).getD (i.toNat*3+1) (.v (.int .i64 0)) = .v (.int .i64 (ix xs i).A):=by
 have:=fp xs i 1 (by decide) (.v (.int .i64 0):SV) rfl
 rw [w6] at this
 exact this
@[push_cast] theorem MS (xs:List dg) (i:Int):(fl xs).getD (i.toNat*3+2) (.v (.int .i64 0)) = .v (.int .i64 (ix xs i).B):=by
 have:=fp xs i 2 (by decide) (.v (.int .i64 0):SV) rfl
 rw [w6] at this
 exact this
structure cy where
 Code:(List dg)
 Cells:Int
 Pipes:(List Int)
 Locks:Int
 Groups:Int
 deriving Inhabited,DecidableEq
instance : b_ cy:=⟨5,λd=>[.sl d.Code.length (fl d.Code),.v (.int .i64 d.Cells),.sl d.Pipes.length (fl d.Pipes),.v (.int .i64 d.Locks),.v (.int .i64 d.Groups)],λ_=>rfl,λ_=>rfl,λ_=>by simp only [ir,SV.st,kR,db]⟩
@[push_cast] theorem ua:b_.sz cy=5:=rfl
@[push_cast] theorem Ax (d:cy):b_.cells d=[.sl d.Code.length (fl d.Code),.v (.int .i64 d.Cells),.sl d.Pipes.length (fl d.Pipes),.v (.int .i64 d.Locks),.v (.int .i64 d.Groups)]:=rfl
@[push_cast] theorem Lp (xs:List cy) (x0:(List dg)) (x1:Int) (x2:(List Int)) (x3:Int) (x4:Int):fl xs++[.sl x0.length (fl x0),.v (.int .i64 x1),.sl x2.length (fl x2),.v (.int .i64 x3),.v (.int .i64 x4)]=fl (xs++[cy.mk x0 x1 x2 x3 x4]):=by rw [fH];rfl
@[push_cast] theorem Ib (xs:List cy) (i:Int):(fl xs).getD (i.toNat*5+1) (.v (.int .i64 0)) = .v (.int .i64 (ix xs i).Cells):=by
 have:=fp xs i 1 (by decide) (.v (.int .i64 0):SV) rfl
 rw [ua] at this
 exact this
@[push_cast] theorem Ic (xs:List cy) (i:Int):(fl xs).getD (i.toNat*5+3) (.v (.int .i64 0)) = .v (.int .i64 (ix xs i).Locks):=by
 have:=fp xs i 3 (by decide) (.v (.int .i64 0):SV) rfl
 rw [ua] at this
 exact this
@[push_cast] theorem HS (xs:List cy) (i:Int):(fl xs).getD (i.toNat*5+4) (.v (.int .i64 0)) = .v (.int .i64 (ix xs i).Groups):=by
 have:=fp xs i 4 (by decide) (.v (.int .i64 0):SV) rfl
 rw [ua] at this
 exact this
structure cD where
 Code:Int
 At:Int
 deriving Inhabited,DecidableEq
instance : b_ cD:=⟨2,λd=>[.v (.int .i64 d.Code),.v (.int .i64 d.At)],λ_=>rfl,λ_=>rfl,λ_=>by simp only [ir,SV.st,kR,db]⟩
@[push_cast] theorem NT (xs:List cD):iW (fl xs)=true:=m5 (λ_=>rfl) xs
@[push_cast] theorem Dl:b_.sz cD=2:=rfl
@[push_cast] theorem MT (d:cD):b_.cells d=[.v (.int .i64 d.Code),.v (.int .i64 d.At)]:=rfl
@[push_cast] theorem Nr (xs:List cD) (x0:Int) (x1:Int):fl xs++[.v (.int .i64 x0),.v (.int .i64 x1)]=fl (xs++[cD.mk x0 x1]):=by rw [fH];rfl
@[push_cast] theorem Lq (xs:List cD) (i:Int):(fl xs).getD (i.toNat*2) (.v (.int .i64 0)) = .v (.int .i64 (ix xs i).Code):=by
 have:=fp xs i 0 (by decide) (.v (.int .i64 0):SV) rfl
 rw [Dl,eG] at this
 exact this
@[push_cast] theorem MU (xs:List cD) (i:Int):(fl xs).getD (i.toNat*2+1) (.v (.int .i64 0)) = .v (.int .i64 (ix xs i).At):=by
 have:=fp xs i 1 (by decide) (.v (.int .i64 0):SV) rfl
 rw [Dl] at this
 exact this
structure kind where
 name:ByteArray
 args:ByteArray
 deriving Inhabited,DecidableEq
instance : b_ kind:=⟨2,λd=>[.v (.string d.name),.v (.string d.args)],λ_=>rfl,λ_=>rfl,λ_=>by simp only [ir,SV.st,kR,db]⟩
@[push_cast] theorem Ol (xs:List kind):iW (fl xs)=true:=m5 (λ_=>rfl) xs
@[push_cast] theorem Ow:b_.sz kind=2:=rfl
@[push_cast] theorem Ns (d:kind):b_.cells d=[.v (.string d.name),.v (.string d.args)]:=rfl
@[push_cast] theorem NU (xs:List kind) (x0:ByteArray) (x1:ByteArray):fl xs++[.v (.string x0),.v (.string x1)]=fl (xs++[kind.mk x0 x1]):=by rw [fH];rfl
structure cq where
 pc:Int
 r:dn 8
 state:Int
 when:Int
 seq:Int
 deriving Inhabited,DecidableEq
instance : b_ cq:=⟨12,λd=>((.v (.int .i64 d.pc)::(b_.cells d.r++(.v (.int .i64 d.state)::(.v (.int .i64 d.when)::(.v (.int .i64 d.seq)::[]))))):List SV),(λ_=>by simp only [KJ,ga,List.length_nil]),(λ_=>by simp only [KL,mL,List.all_nil,jp,Value.oneCell',db]),λ_=>by simp only [E0,ir,SV.st,kR,db]⟩
@[push_cast] theorem Om (xs:List cq):iW (fl xs)=true:=m5 (λ_=>rfl) xs
@[push_cast] theorem xw:b_.sz cq=12:=rfl
@[push_cast] theorem Nt (d:cq):b_.cells d=((.v (.int .i64 d.pc)::(b_.cells d.r++(.v (.int .i64 d.state)::(.v (.int .i64 d.when)::(.v (.int .i64 d.seq)::[]))))):List SV):=rfl
@[push_cast] theorem NV (xs:List cq) (x0:Int) (x1:dn 8) (x9:Int) (x10:Int) (x11:Int):fl xs++((.v (.int .i64 x0)::(b_.cells x1++(.v (.int .i64 x9)::(.v (.int .i64 x10)::(.v (.int .i64 x11)::[]))))):List SV)=fl (xs++[cq.mk x0 x1 x9 x10 x11]):=by rw [fH];rfl
@[push_cast] theorem Nu (xs:List cq) (i:Int):(fl xs).getD (i.toNat*12) (.v (.int .i64 0)) = .v (.int .i64 (ix xs i).pc):=by
 have:=fp xs i 0 (by decide) (.v (.int .i64 0):SV) rfl
 rw [xw,eG] at this
 exact this
@[push_cast] theorem Lr (xs:List cq) (i:Int):(fl xs).getD (i.toNat*12+9) (.v (.int .i64 0)) = .v (.int .i64 (ix xs i).state):=by
 have:=fp xs i 9 (by decide) (.v (.int .i64 0):SV) rfl
 rw [xw] at this
 exact this
@[push_cast] theorem Mo (xs:List cq) (i:Int):(fl xs).getD (i.toNat*12+10) (.v (.int .i64 0)) = .v (.int .i64 (ix xs i).when):=by
 have:=fp xs i 10 (by decide) (.v (.int .i64 0):SV) rfl
 rw [xw] at this
 exact this
@[push_cast] theorem MW (xs:List cq) (i:Int):(fl xs).getD (i.toNat*12+11) (.v (.int .i64 0)) = .v (.int .i64 (ix xs i).seq):=by
 have:=fp xs i 11 (by decide) (.v (.int .i64 0):SV) rfl
 rw [xw] at this
 exact this
structure bV where
 now:Int
 Ring_Next:Int
 Ring_List:(List Int)
 deriving Inhabited,DecidableEq
instance : b_ bV:=⟨3,λd=>[.v (.int .i64 d.now),.v (.int .i64 d.Ring_Next),.sl d.Ring_List.length (fl d.Ring_List)],λ_=>rfl,λ_=>rfl,λ_=>by simp only [ir,SV.st,kR,db]⟩
@[push_cast] theorem w7:b_.sz bV=3:=rfl
@[push_cast] theorem Jp (d:bV):b_.cells d=[.v (.int .i64 d.now),.v (.int .i64 d.Ring_Next),.sl d.Ring_List.length (fl d.Ring_List)]:=rfl
@[push_cast] theorem KO (xs:List bV) (x0:Int) (x1:Int) (x2:(List Int)):fl xs++[.v (.int .i64 x0),.v (.int .i64 x1),.sl x2.length (fl x2)]=fl (xs++[bV.mk x0 x1 x2]):=by rw [fH];rfl
@[push_cast] theorem IW (xs:List bV) (i:Int):(fl xs).getD (i.toNat*3) (.v (.int .i64 0)) = .v (.int .i64 (ix xs i).now):=by
 have:=fp xs i 0 (by decide) (.v (.int .i64 0):SV) rfl
 rw [w7,eG] at this
 exact this
@[push_cast] theorem Ep (xs:List bV) (i:Int):(fl xs).getD (i.toNat*3+1) (.v (.int .i64 0)) = .v (.int .i64 (ix xs i).Ring_Next):=by
 have:=fp xs i 1 (by decide) (.v (.int .i64 0):SV) rfl
 rw [w7] at this
 exact this
structure cI where
 Task:Int
 Case:Int
 Value:Int
 deriving Inhabited,DecidableEq
instance : b_ cI:=⟨3,λd=>[.v (.int .i64 d.Task),.v (.int .i64 d.Case),.v (.int .i64 d.Value)],λ_=>rfl,λ_=>rfl,λ_=>by simp only [ir,SV.st,kR,db]⟩
@[push_cast] theorem NW (xs:List cI):iW (fl xs)=true:=m5 (λ_=>rfl) xs
@[push_cast] theorem yA:b_.sz cI=3:=rfl
@[push_cast] theorem MX (d:cI):b_.cells d=[.v (.int .i64 d.Task),.v (.int .i64 d.Case),.v (.int .i64 d.Value)]:=rfl
@[push_cast] theorem Nv (xs:List cI) (x0:Int) (x1:Int) (x2:Int):fl xs++[.v (.int .i64 x0),.v (.int .i64 x1),.v (.int .i64 x2)]=fl (xs++[cI.mk x0 x1 x2]):=by rw [fH];rfl
@[push_cast] theorem Ls (xs:List cI) (i:Int):(fl xs).getD (i.toNat*3) (.v (.int .i64 0)) = .v (.int .i64 (ix xs i).Task):=by
 have:=fp xs i 0 (by decide) (.v (.int .i64 0):SV) rfl
 rw [yA,eG] at this
 exact this
@[push_cast] theorem Lt (xs:List cI) (i:Int):(fl xs).getD (i.toNat*3+1) (.v (.int .i64 0)) = .v (.int .i64 (ix xs i).Case):=by
 have:=fp xs i 1 (by decide) (.v (.int .i64 0):SV) rfl
 rw [yA] at this
 exact this
@[push_cast] theorem KP (xs:List cI) (i:Int):(fl xs).getD (i.toNat*3+2) (.v (.int .i64 0)) = .v (.int .i64 (ix xs i).Value):=by
 have:=fp xs i 2 (by decide) (.v (.int .i64 0):SV) rfl
 rw [yA] at this
 exact this
structure cR where
 Cap:Int
 Items:(List Int)
 Closed:Bool
 Senders:(List cI)
 Getters:(List cI)
 deriving Inhabited,DecidableEq
instance : b_ cR:=⟨5,λd=>[.v (.int .i64 d.Cap),.sl d.Items.length (fl d.Items),.v (.bool d.Closed),.sl d.Senders.length (fl d.Senders),.sl d.Getters.length (fl d.Getters)],λ_=>rfl,λ_=>rfl,λ_=>by simp only [ir,SV.st,kR,db]⟩
@[push_cast] theorem Fa:b_.sz cR=5:=rfl
@[push_cast] theorem Nw (d:cR):b_.cells d=[.v (.int .i64 d.Cap),.sl d.Items.length (fl d.Items),.v (.bool d.Closed),.sl d.Senders.length (fl d.Senders),.sl d.Getters.length (fl d.Getters)]:=rfl
@[push_cast] theorem NX (xs:List cR) (x0:Int) (x1:(List Int)) (x2:Bool) (x3:(List cI)) (x4:(List cI)):fl xs++[.v (.int .i64 x0),.sl x1.length (fl x1),.v (.bool x2),.sl x3.length (fl x3),.sl x4.length (fl x4)]=fl (xs++[cR.mk x0 x1 x2 x3 x4]):=by rw [fH];rfl
@[push_cast] theorem MY (xs:List cR) (i:Int):(fl xs).getD (i.toNat*5) (.v (.int .i64 0)) = .v (.int .i64 (ix xs i).Cap):=by
 have:=fp xs i 0 (by decide) (.v (.int .i64 0):SV) rfl
 rw [Fa,eG] at this
 exact this
@[push_cast] theorem KQ (xs:List cR) (i:Int):(fl xs).getD (i.toNat*5+2) (.v (.bool false)) = .v (.bool (ix xs i).Closed):=by
 have:=fp xs i 2 (by decide) (.v (.bool false):SV) rfl
 rw [Fa] at this
 exact this
structure dR where
 Task:Int
 Write:Bool
 N:Int
 deriving Inhabited,DecidableEq
instance : b_ dR:=⟨3,λd=>[.v (.int .i64 d.Task),.v (.bool d.Write),.v (.int .i64 d.N)],λ_=>rfl,λ_=>rfl,λ_=>by simp only [ir,SV.st,kR,db]⟩
@[push_cast] theorem On (xs:List dR):iW (fl xs)=true:=m5 (λ_=>rfl) xs
@[push_cast] theorem Ay:b_.sz dR=3:=rfl
@[push_cast] theorem Nx (d:dR):b_.cells d=[.v (.int .i64 d.Task),.v (.bool d.Write),.v (.int .i64 d.N)]:=rfl
@[push_cast] theorem NY (xs:List dR) (x0:Int) (x1:Bool) (x2:Int):fl xs++[.v (.int .i64 x0),.v (.bool x1),.v (.int .i64 x2)]=fl (xs++[dR.mk x0 x1 x2]):=by rw [fH];rfl
@[push_cast] theorem Mp (xs:List dR) (i:Int):(fl xs).getD (i.toNat*3) (.v (.int .i64 0)) = .v (.int .i64 (ix xs i).Task):=by
 have:=fp xs i 0 (by decide) (.v (.int .i64 0):SV) rfl
 rw [Ay,eG] at this
 exact this
@[push_cast] theorem Lu (xs:List dR) (i:Int):(fl xs).getD (i.toNat*3+1) (.v (.bool false)) = .v (.bool (ix xs i).Write):=by
 have:=fp xs i 1 (by decide) (.v (.bool false):SV) rfl
 rw [Ay] at this
 exact this
@[push_cast] theorem NZ (xs:List dR) (i:Int):(fl xs).getD (i.toNat*3+2) (.v (.int .i64 0)) = .v (.int .i64 (ix xs i).N):=by
 have:=fp xs i 2 (by decide) (.v (.int .i64 0):SV) rfl
 rw [Ay] at this
 exact this
structure di where
 Readers:Int
 Writer:Bool
 Line:(List dR)
 deriving Inhabited,DecidableEq
instance : b_ di:=⟨3,λd=>[.v (.int .i64 d.Readers),.v (.bool d.Writer),.sl d.Line.length (fl d.Line)],λ_=>rfl,λ_=>rfl,λ_=>by simp only [ir,SV.st,kR,db]⟩
@[push_cast] theorem Fb:b_.sz di=3:=rfl
@[push_cast] theorem Ny (d:di):b_.cells d=[.v (.int .i64 d.Readers),.v (.bool d.Writer),.sl d.Line.length (fl d.Line)]:=rfl
@[push_cast] theorem N0 (xs:List di) (x0:Int) (x1:Bool) (x2:(List dR)):fl xs++[.v (.int .i64 x0),.v (.bool x1),.sl x2.length (fl x2)]=fl (xs++[di.mk x0 x1 x2]):=by rw [fH];rfl
@[push_cast] theorem Jq (xs:List di) (i:Int):(fl xs).getD (i.toNat*3) (.v (.int .i64 0)) = .v (.int .i64 (ix xs i).Readers):=by
 have:=fp xs i 0 (by decide) (.v (.int .i64 0):SV) rfl
 rw [Fb,eG] at this
 exact this
@[push_cast] theorem KR (xs:List di) (i:Int):(fl xs).getD (i.toNat*3+1) (.v (.bool false)) = .v (.bool (ix xs i).Writer):=by
 have:=fp xs i 1 (by decide) (.v (.bool false):SV) rfl
 rw [Fb] at this
 exact this
structure cY where
 Count:Int
 Line:(List Int)
 deriving Inhabited,DecidableEq
instance : b_ cY:=⟨2,λd=>[.v (.int .i64 d.Count),.sl d.Line.length (fl d.Line)],λ_=>rfl,λ_=>rfl,λ_=>by simp only [ir,SV.st,kR,db]⟩
@[push_cast] theorem IX:b_.sz cY=2:=rfl
@[push_cast] theorem MZ (d:cY):b_.cells d=[.v (.int .i64 d.Count),.sl d.Line.length (fl d.Line)]:=rfl
@[push_cast] theorem Nz (xs:List cY) (x0:Int) (x1:(List Int)):fl xs++[.v (.int .i64 x0),.sl x1.length (fl x1)]=fl (xs++[cY.mk x0 x1]):=by rw [fH];rfl
@[push_cast] theorem KS (xs:List cY) (i:Int):(fl xs).getD (i.toNat*2) (.v (.int .i64 0)) = .v (.int .i64 (ix xs i).Count):=by
 have:=fp xs i 0 (by decide) (.v (.int .i64 0):SV) rfl
 rw [IX,eG] at this
 exact this
structure cz where
 Task:Int
 Op:Int
 Obj:Int
 Value:Int
 deriving Inhabited,DecidableEq
instance : b_ cz:=⟨4,λd=>[.v (.int .i64 d.Task),.v (.int .i64 d.Op),.v (.int .i64 d.Obj),.v (.int .i64 d.Value)],λ_=>rfl,λ_=>rfl,λ_=>by simp only [ir,SV.st,kR,db]⟩
@[push_cast] theorem NA (xs:List cz):iW (fl xs)=true:=m5 (λ_=>rfl) xs
@[push_cast] theorem tI:b_.sz cz=4:=rfl
@[push_cast] theorem Mq (d:cz):b_.cells d=[.v (.int .i64 d.Task),.v (.int .i64 d.Op),.v (.int .i64 d.Obj),.v (.int .i64 d.Value)]:=rfl
@[push_cast] theorem M0 (xs:List cz) (x0:Int) (x1:Int) (x2:Int) (x3:Int):fl xs++[.v (.int .i64 x0),.v (.int .i64 x1),.v (.int .i64 x2),.v (.int .i64 x3)]=fl (xs++[cz.mk x0 x1 x2 x3]):=by rw [fH];rfl
@[push_cast] theorem KT (xs:List cz) (i:Int):(fl xs).getD (i.toNat*4) (.v (.int .i64 0)) = .v (.int .i64 (ix xs i).Task):=by
 have:=fp xs i 0 (by decide) (.v (.int .i64 0):SV) rfl
 rw [tI,eG] at this
 exact this
@[push_cast] theorem Mr (xs:List cz) (i:Int):(fl xs).getD (i.toNat*4+1) (.v (.int .i64 0)) = .v (.int .i64 (ix xs i).Op):=by
 have:=fp xs i 1 (by decide) (.v (.int .i64 0):SV) rfl
 rw [tI] at this
 exact this
@[push_cast] theorem Lv (xs:List cz) (i:Int):(fl xs).getD (i.toNat*4+2) (.v (.int .i64 0)) = .v (.int .i64 (ix xs i).Obj):=by
 have:=fp xs i 2 (by decide) (.v (.int .i64 0):SV) rfl
 rw [tI] at this
 exact this
@[push_cast] theorem Jr (xs:List cz) (i:Int):(fl xs).getD (i.toNat*4+3) (.v (.int .i64 0)) = .v (.int .i64 (ix xs i).Value):=by
 have:=fp xs i 3 (by decide) (.v (.int .i64 0):SV) rfl
 rw [tI] at this
 exact this
structure fy where
 Next:Int
 List:(List Int)
 deriving Inhabited,DecidableEq
instance : b_ fy:=⟨2,λd=>[.v (.int .i64 d.Next),.sl d.List.length (fl d.List)],λ_=>rfl,λ_=>rfl,λ_=>by simp only [ir,SV.st,kR,db]⟩
@[push_cast] theorem KU:b_.sz fy=2:=rfl
@[push_cast] theorem NB (d:fy):b_.cells d=[.v (.int .i64 d.Next),.sl d.List.length (fl d.List)]:=rfl
@[push_cast] theorem N7 (xs:List fy) (x0:Int) (x1:(List Int)):fl xs++[.v (.int .i64 x0),.sl x1.length (fl x1)]=fl (xs++[fy.mk x0 x1]):=by rw [fH];rfl
@[push_cast] theorem Ms (xs:List fy) (i:Int):(fl xs).getD (i.toNat*2) (.v (.int .i64 0)) = .v (.int .i64 (ix xs i).Next):=by
 have:=fp xs i 0 (by decide) (.v (.int .i64 0):SV) rfl
 rw [KU,eG] at this
 exact this
structure de where
 Task:Int
 Case:Int
 Value:Int
 Ok:Bool
 Panic:Bool
 deriving Inhabited,DecidableEq
instance : b_ de:=⟨5,λd=>[.v (.int .i64 d.Task),.v (.int .i64 d.Case),.v (.int .i64 d.Value),.v (.bool d.Ok),.v (.bool d.Panic)],λ_=>rfl,λ_=>rfl,λ_=>by simp only [ir,SV.st,kR,db]⟩
@[push_cast] theorem N8 (xs:List de):iW (fl xs)=true:=m5 (λ_=>rfl) xs
@[push_cast] theorem s6:b_.sz de=5:=rfl
@[push_cast] theorem M7 (d:de):b_.cells d=[.v (.int .i64 d.Task),.v (.int .i64 d.Case),.v (.int .i64 d.Value),.v (.bool d.Ok),.v (.bool d.Panic)]:=rfl
@[push_cast] theorem NC (xs:List de) (x0:Int) (x1:Int) (x2:Int) (x3:Bool) (x4:Bool):fl xs++[.v (.int .i64 x0),.v (.int .i64 x1),.v (.int .i64 x2),.v (.bool x3),.v (.bool x4)]=fl (xs++[de.mk x0 x1 x2 x3 x4]):=by rw [fH];rfl
@[push_cast] theorem Lw (xs:List de) (i:Int):(fl xs).getD (i.toNat*5) (.v (.int .i64 0)) = .v (.int .i64 (ix xs i).Task):=by
 have:=fp xs i 0 (by decide) (.v (.int .i64 0):SV) rfl
 rw [s6,eG] at this
 exact this
@[push_cast] theorem Lx (xs:List de) (i:Int):(fl xs).getD (i.toNat*5+1) (.v (.int .i64 0)) = .v (.int .i64 (ix xs i).Case):=by
 have:=fp xs i 1 (by decide) (.v (.int .i64 0):SV) rfl
 rw [s6] at this
 exact this
@[push_cast] theorem KV (xs:List de) (i:Int):(fl xs).getD (i.toNat*5+2) (.v (.int .i64 0)) = .v (.int .i64 (ix xs i).Value):=by
 have:=fp xs i 2 (by decide) (.v (.int .i64 0):SV) rfl
 rw [s6] at this
 exact this
@[push_cast] theorem M8 (xs:List de) (i:Int):(fl xs).getD (i.toNat*5+3) (.v (.bool false)) = .v (.bool (ix xs i).Ok):=by
 have:=fp xs i 3 (by decide) (.v (.bool false):SV) rfl
 rw [s6] at this
 exact this
@[push_cast] theorem KW (xs:List de) (i:Int):(fl xs).getD (i.toNat*5+4) (.v (.bool false)) = .v (.bool (ix xs i).Panic):=by
 have:=fp xs i 4 (by decide) (.v (.bool false):SV) rfl
 rw [s6] at this
 exact this
structure lj where
 Done:Bool
 Panic:Bool
 Ok:Bool
 Value:Int
 Case:Int
 Wakes:(List de)
 deriving Inhabited,DecidableEq
instance : b_ lj:=⟨6,λd=>[.v (.bool d.Done),.v (.bool d.Panic),.v (.bool d.Ok),.v (.int .i64 d.Value),.v (.int .i64 d.Case),.sl d.Wakes.length (fl d.Wakes)],λ_=>rfl,λ_=>rfl,λ_=>by simp only [ir,SV.st,kR,db]⟩
@[push_cast] theorem rH:b_.sz lj=6:=rfl
@[push_cast] theorem Mt (d:lj):b_.cells d=[.v (.bool d.Done),.v (.bool d.Panic),.v (.bool d.Ok),.v (.int .i64 d.Value),.v (.int .i64 d.Case),.sl d.Wakes.length (fl d.Wakes)]:=rfl
@[push_cast] theorem M9 (xs:List lj) (x0:Bool) (x1:Bool) (x2:Bool) (x3:Int) (x4:Int) (x5:(List de)):fl xs++[.v (.bool x0),.v (.bool x1),.v (.bool x2),.v (.int .i64 x3),.v (.int .i64 x4),.sl x5.length (fl x5)]=fl (xs++[lj.mk x0 x1 x2 x3 x4 x5]):=by rw [fH];rfl
@[push_cast] theorem KX (xs:List lj) (i:Int):(fl xs).getD (i.toNat*6) (.v (.bool false)) = .v (.bool (ix xs i).Done):=by
 have:=fp xs i 0 (by decide) (.v (.bool false):SV) rfl
 rw [rH,eG] at this
 exact this
@[push_cast] theorem Js (xs:List lj) (i:Int):(fl xs).getD (i.toNat*6+1) (.v (.bool false)) = .v (.bool (ix xs i).Panic):=by
 have:=fp xs i 1 (by decide) (.v (.bool false):SV) rfl
 rw [rH] at this
 exact this
@[push_cast] theorem Mu (xs:List lj) (i:Int):(fl xs).getD (i.toNat*6+2) (.v (.bool false)) = .v (.bool (ix xs i).Ok):=by
 have:=fp xs i 2 (by decide) (.v (.bool false):SV) rfl
 rw [rH] at this
 exact this
@[push_cast] theorem Jt (xs:List lj) (i:Int):(fl xs).getD (i.toNat*6+3) (.v (.int .i64 0)) = .v (.int .i64 (ix xs i).Value):=by
 have:=fp xs i 3 (by decide) (.v (.int .i64 0):SV) rfl
 rw [rH] at this
 exact this
@[push_cast] theorem KY (xs:List lj) (i:Int):(fl xs).getD (i.toNat*6+4) (.v (.int .i64 0)) = .v (.int .i64 (ix xs i).Case):=by
 have:=fp xs i 4 (by decide) (.v (.int .i64 0):SV) rfl
 rw [rH] at this
 exact this
structure jS where
 Trace:(List cz)
 State:Int
 Steps:Int
 Now:Int
 Tasks:(List Int)
 Cells:(List Int)
 deriving Inhabited,DecidableEq
instance : b_ jS:=⟨6,λd=>[.sl d.Trace.length (fl d.Trace),.v (.int .i64 d.State),.v (.int .i64 d.Steps),.v (.int .i64 d.Now),.sl d.Tasks.length (fl d.Tasks),.sl d.Cells.length (fl d.Cells)],λ_=>rfl,λ_=>rfl,λ_=>by simp only [ir,SV.st,kR,db]⟩
@[push_cast] theorem w8:b_.sz jS=6:=rfl
@[push_cast] theorem Mv (d:jS):b_.cells d=[.sl d.Trace.length (fl d.Trace),.v (.int .i64 d.State),.v (.int .i64 d.Steps),.v (.int .i64 d.Now),.sl d.Tasks.length (fl d.Tasks),.sl d.Cells.length (fl d.Cells)]:=rfl
@[push_cast] theorem M_ (xs:List jS) (x0:(List cz)) (x1:Int) (x2:Int) (x3:Int) (x4:(List Int)) (x5:(List Int)):fl xs++[.sl x0.length (fl x0),.v (.int .i64 x1),.v (.int .i64 x2),.v (.int .i64 x3),.sl x4.length (fl x4),.sl x5.length (fl x5)]=fl (xs++[jS.mk x0 x1 x2 x3 x4 x5]):=by rw [fH];rfl
@[push_cast] theorem Ju (xs:List jS) (i:Int):(fl xs).getD (i.toNat*6+1) (.v (.int .i64 0)) = .v (.int .i64 (ix xs i).State):=by
 have:=fp xs i 1 (by decide) (.v (.int .i64 0):SV) rfl
 rw [w8] at this
 exact this
@[push_cast] theorem Jv (xs:List jS) (i:Int):(fl xs).getD (i.toNat*6+2) (.v (.int .i64 0)) = .v (.int .i64 (ix xs i).Steps):=by
 have:=fp xs i 2 (by decide) (.v (.int .i64 0):SV) rfl
 rw [w8] at this
 exact this
@[push_cast] theorem Ly (xs:List jS) (i:Int):(fl xs).getD (i.toNat*6+3) (.v (.int .i64 0)) = .v (.int .i64 (ix xs i).Now):=by
 have:=fp xs i 3 (by decide) (.v (.int .i64 0):SV) rfl
 rw [w8] at this
 exact this
def ic:List kind:=[⟨⟨#[]⟩,⟨#[]⟩⟩,⟨⟨#[115,101,116]⟩,⟨#[114,110]⟩⟩,⟨⟨#[99,111,112,121]⟩,⟨#[114,114]⟩⟩,⟨⟨#[97,100,100]⟩,⟨#[114,114]⟩⟩,⟨⟨#[115,117,98]⟩,⟨#[114,114]⟩⟩,⟨⟨#[108,101,115,115]⟩,⟨#[114,114]⟩⟩,⟨⟨#[106,117,109,112]⟩,⟨#[99,45]⟩⟩,⟨⟨#[122,101,114,111]⟩,⟨#[114,99]⟩⟩,⟨⟨#[112,114,105,110,116]⟩,⟨#[114,45]⟩⟩,⟨⟨#[101,110,100]⟩,⟨#[45,45]⟩⟩,⟨⟨#[121,105,101,108,100]⟩,⟨#[45,45]⟩⟩,⟨⟨#[103,111]⟩,⟨#[99,114]⟩⟩,⟨⟨#[108,111,97,100]⟩,⟨#[114,109]⟩⟩,⟨⟨#[115,116,111,114,101]⟩,⟨#[109,114]⟩⟩,⟨⟨#[115,101,110,100]⟩,⟨#[112,114]⟩⟩,⟨⟨#[103,101,116]⟩,⟨#[114,112]⟩⟩,⟨⟨#[115,104,117,116]⟩,⟨#[112,45]⟩⟩,⟨⟨#[108,111,99,107]⟩,⟨#[108,107]⟩⟩,⟨⟨#[117,110,108,111,99,107]⟩,⟨#[108,107]⟩⟩,⟨⟨#[99,111,117,110,116]⟩,⟨#[103,114]⟩⟩,⟨⟨#[119,97,105,116]⟩,⟨#[103,45]⟩⟩,⟨⟨#[115,108,101,101,112]⟩,⟨#[114,45]⟩⟩,⟨⟨#[112,97,110,105,99]⟩,⟨#[45,45]⟩⟩]
def fY:List ByteArray:=[⟨#[]⟩,⟨#[114,110]⟩,⟨#[114,114]⟩,⟨#[114,114]⟩,⟨#[114,114]⟩,⟨#[114,114]⟩,⟨#[99,45]⟩,⟨#[114,99]⟩,⟨#[114,45]⟩,⟨#[45,45]⟩,⟨#[45,45]⟩,⟨#[99,114]⟩,⟨#[114,109]⟩,⟨#[109,114]⟩,⟨#[112,114]⟩,⟨#[114,112]⟩,⟨#[112,45]⟩,⟨#[108,107]⟩,⟨#[108,107]⟩,⟨#[103,114]⟩,⟨#[103,45]⟩,⟨#[114,45]⟩,⟨#[45,45]⟩]
def nv (a b:Int):Option (cD):=(some ((cD.mk a b)))
def rI (p:cy) (k x:Int):Option (Bool):=(bif (k==110) then (some (true)) else (some (((decide ((0:Int)<=x))&&(decide (x<(fV [(114,8),(99,(p.Code.length:Int)),(109,p.Cells),(112,(p.Pipes.length:Int)),(108,p.Locks),(103,p.Groups),(107,2),(45,1)] k)))))))
def pA (a:Int) (b:Bool):Option (((Int) ⊕ (cD))):=(bif b then ((nv 5 a).bind λc=>(Option.map Sum.inr (some (c)))) else (some (Sum.inl ((i64.wrap (a+1))))))
def jg (p:cy):Int->Option (((Int) ⊕ (cD))):=λa=>(bif (decide (a<(p.Code.length:Int))) then (bif ((decide ((0:Int)<=a))&&(decide (a<(p.Code.length:Int)))) then (bif ((decide ((ix p.Code a).Op<1))||(decide ((23:Int)<=(ix p.Code a).Op))) then ((nv 4 a).bind λc=>(Option.map Sum.inr (some (c)))) else (bif ((decide ((0:Int)<=(ix p.Code a).Op))&&(decide ((ix p.Code a).Op<(ic.length:Int)))) then (bif (decide ((0:Int)<((((ix ic (ix p.Code a).Op).args).size:Nat):Int))) then ((rI p ((((ix ic (ix p.Code a).Op).args).data.getD ((0:Int)).toNat 0).toNat:Int) (ix p.Code a).A).bind λb=>(bif (!b) then (pA a true) else (bif (decide ((1:Int)<((((ix ic (ix p.Code a).Op).args).size:Nat):Int))) then ((rI p ((((ix ic (ix p.Code a).Op).args).data.getD ((1:Int)).toNat 0).toNat:Int) (ix p.Code a).B).bind λd=>(pA a (!d))) else none))) else none) else none)) else none) else (Option.map Sum.inr (some ((cD.mk 0 0)))))
def me (p:cy):Int->Option (((Int) ⊕ (cD))):=λa=>(bif (decide (a<(p.Pipes.length:Int))) then (bif ((decide ((0:Int)<=a))&&(decide (a<(p.Pipes.length:Int)))) then (bif ((decide ((ix p.Pipes a)<0))||(decide ((100:Int)<(ix p.Pipes a)))) then ((nv 8 a).bind λb=>(Option.map Sum.inr (some (b)))) else (some (Sum.inl ((i64.wrap (a+1)))))) else none) else (Option.map Sum.inr (dF (jg p) (0))))
def qk (p:cy):Option (cD):=(bif ((decide ((1000:Int)<(p.Code.length:Int)))||(decide ((20:Int)<(p.Pipes.length:Int)))) then ((nv 2 0).bind λb=>(some (b))) else (bif ((decide ((min (min p.Cells p.Locks) p.Groups)<0))||(decide ((20:Int)<(max (max p.Cells p.Locks) p.Groups)))) then ((nv 3 0).bind λa=>(some (a))) else (dF (me p) (0))))
def pj (a b:Int):Option (cD):=(some ((cD.mk a b)))
def kf (p:cy) (c:List bV):Int×(List cR)->Option (((Int×List cR) ⊕ ((List Int)×List cq×List bV×List Int×List cR×List di×List cY))):=λ(a,b)=>(bif (decide (a<(p.Pipes.length:Int))) then (bif ((decide ((0:Int)<=a))&&(decide (a<(p.Pipes.length:Int)))) then (bif (decide ((b++([(cR.mk (ix p.Pipes a) [] false [] [])]:List cR)).length*88<=140737488355328)) then (some (Sum.inl ((i64.wrap (a+1)),(b++([(cR.mk (ix p.Pipes a) [] false [] [])]:List cR))))) else none) else none) else (Option.map Sum.inr (bif (decide (0<=p.Locks/\p.Locks<=4611686018427387904/\(40:Int)*p.Locks<=140737488355328)) then (bif (decide (0<=p.Groups/\p.Groups<=4611686018427387904/\(32:Int)*p.Groups<=140737488355328)) then (some ((List.replicate (p.Cells).toNat (default:Int)),([((cq.mk 0 (default:(dn 8)) 0 0 0):cq)]:List cq),c,([1]:List Int),b,(List.replicate (p.Locks).toNat (default:di)),(List.replicate (p.Groups).toNat (default:cY)))) else none) else none)))
def kg (p:cy) (c:Int):Int×(List bV)->Option (((Int×List bV) ⊕ ((List Int)×List cq×List bV×List Int×List cR×List di×List cY))):=λ(b,a)=>(bif (decide (b<c)) then (bif (decide ((a++[((bV.mk 0 0 []):bV)]).length*8<=140737488355328)) then (some (Sum.inl ((i64.wrap (b+1)),(a++[((bV.mk 0 0 []):bV)])))) else none) else (Option.map Sum.inr (dF (kf p a) (0,[]))))
def lS (p:cy) (a:Int):Option ((List Int)×List cq×List bV×List Int×List cR×List di×List cY):=(bif (decide (0<=p.Cells/\p.Cells<=4611686018427387904/\(8:Int)*p.Cells<=140737488355328)) then (dF (kg p a) (0,[])) else none)
def iC (m:(List (PT cq))) (t:Int):Option (cq):=(bif ((decide ((0:Int)<=(i64.wrap (t-1))))&&(decide ((i64.wrap (t-1))<(m.length:Int)))) then (some ((ix m (i64.wrap (t-1))).x)) else none)
def nJ (x:Int):Option (Bool):=(some ((x != x)))
def kT (x y:Int):Option (Int):=((nJ x).bind λb=>((nJ y).bind λa=>(bif b then (bif a then (some (0)) else (some ((-1)))) else (bif a then (some (1)) else (bif (decide (x<y)) then (some ((-1))) else (bif (decide (y<x)) then (some (1)) else (some (0))))))))
def pB (b:List Int):Int->Option (((Int) ⊕ (Int))):=λa=>(bif (decide (a<(b.length:Int))) then (bif ((decide ((0:Int)<=a))&&(decide (a<(b.length:Int)))) then (bif ((ix b a) != 0) then (Option.map Sum.inr (some ((ix b a)))) else (some (Sum.inl ((i64.wrap (a+1)))))) else none) else (Option.map Sum.inr (some (0))))
def ql (a:List Int):Option (Int):=(dF (pB a) (0))
def eH (j b:Int) (i:(List (PT cq))):Option (Int):=((iC i j).bind λc=>((iC i b).bind λd=>((kT c.when d.when).bind λh=>((iC i j).bind λg=>((iC i b).bind λa=>((kT g.seq a.seq).bind λe=>((ql ([h,e]:List Int)).bind λf=>(some (f)))))))))
def kh (c0:List Int) (ts:(List (PT cq))):Option (List Int):=open Classical in if (∀ a b:Int,1<=a/\a<=((((c0.foldl max 0).toNat):Nat):Int)->1<=b/\b<=((((c0.foldl max 0).toNat):Nat):Int)->(eH a b ts).isSome=true)/\Go.Sort.SWO (Go.Proofs.ltOf λ(a b:Rg ((c0.foldl max 0).toNat))=>(λa b:Int=>(eH a b ts).getD 0) a.1 b.1)/\(∀ x∈c0,1<=x/\x<=((((c0.foldl max 0).toNat):Nat):Int))/\c0.length<4611686018427387904 then some (oP ((c0.foldl max 0).toNat) (λa b:Int=>(eH a b ts).getD 0) c0) else none
def iP (b:Int) (c:List cq) (a:List Int):Option (((Int×List cq×List Int) ⊕ (Int×List Int×List cq))):=(some (Sum.inl ((i64.wrap (b+1)),c,a)))
def j9 (c:Int) (g:List cq) (f:List Int):Int×List cq×(List Int)->Option (((Int×List cq×List Int) ⊕ (Int×List Int×List cq))):=λ(a,b,d)=>(bif (decide (a<(g.length:Int))) then (bif ((decide ((0:Int)<=a))&&(decide (a<(b.length:Int)))) then (bif (((ix b a).state==2)&&(decide ((ix b a).when<=(i64.wrap (c+1))))) then (bif (decide ((d++([(i64.wrap (a+1))]:List Int)).length*8<=140737488355328)) then (iP a (b.set a.toNat ((cq.mk (ix b a).pc (ix b a).r 0 (ix b a).when (ix b a).seq):cq)) (d++([(i64.wrap (a+1))]:List Int))) else none) else (iP a b d)) else none) else (Option.map Sum.inr ((kh d (b.map PT.mk)).bind λe=>(bif (decide (e.length=d.length)) then (bif (decide ((f++e).length*8<=140737488355328)) then (some ((i64.wrap (c+1)),(f++e),b)) else none) else none))))
def jT (a:Int) (b:List cq) (c:List Int):Option (Int×List Int×List cq):=(dF (j9 a b c) (0,b,[]))
def ig (a b:Int):Option (cD):=(some ((cD.mk a b)))
def mf (q:fy):Int×(List (Int×Int))->Option (((Int×(List (Int×Int))) ⊕ (cD))):=λ(a,b)=>(bif (decide (a<(q.List.length:Int))) then (bif ((decide ((0:Int)<=a))&&(decide (a<(q.List.length:Int)))) then (bif (decide ((ix q.List a)<1)) then ((ig 3 (i64.wrap (a+1))).bind λd=>(Option.map Sum.inr (some (d)))) else (bif (decide ((0:Int)<(fV b (ix q.List a)))) then ((ig 10 (i64.wrap (a+1))).bind λc=>(Option.map Sum.inr (some (c)))) else (some (Sum.inl ((i64.wrap (a+1)),(iy b (ix q.List a) 1)))))) else none) else (Option.map Sum.inr (some ((cD.mk 0 0)))))
def nK (q:fy) (a:(List (Int×Int))):Option (cD):=(dF (mf q) (0,a))
def kB (q:fy):Option (cD):=(bif (decide ((256:Int)<(q.List.length:Int))) then ((ig 2 0).bind λb=>(some (b))) else (bif (decide (q.Next<0)) then ((ig 3 0).bind λa=>(some (a))) else (bif (decide ((0:Int)<q.Next)) then (nK q (iy [] q.Next 1)) else (nK q []))))
def ff (s:List Int):Option ((List Int)):=(bif (decide ((([]:List Int)++s).length*8<=140737488355328)) then (some ((([]:List Int)++s))) else none)
def kC (q:fy):Option ((List Int)):=((ff q.List).bind λa=>(some (a)))
def iZ (q:fy):Option (Int×Int×cD×List Int):=((kB q).bind λb=>(bif (b.Code != 0) then (some (0,0,b,[])) else ((kC q).bind λa=>(bif (decide ((0:Int)<q.Next)) then (some (0,q.Next,(cD.mk 0 0),a)) else (bif ((a.length:Int)==0) then ((ig 6 0).bind λc=>(some (0,0,c,[]))) else (bif (decide ((0:Int)<(a.length:Int))) then (bif (decide ((1:Int)<=(a.length:Int))) then ((ff (cut a (1:Int) (a.length:Int))).bind λd=>(some (q.Next,(ix a (0:Int)),(cD.mk 0 0),d))) else none) else none))))))
def fL (b:Int) (c:cD) (a:List bV):Option (Bool×List bV):=(bif (decide (0<=b/\b<(a.length:Int))) then (some ((c.Code==0),a)) else none)
def dU (b:Int) (c:List bV):Option (Bool×List bV):=(bif (decide (0<=b/\b<(c.length:Int))) then ((iZ (fy.mk (ix c b).Ring_Next (ix c b).Ring_List)).bind λa=>((λz0:List bV=>(bif (a.2.2.1.Code==0) then (fL b a.2.2.1 (z0.set b.toNat ((bV.mk a.2.1 (ix z0 b).Ring_Next (ix z0 b).Ring_List):bV))) else (fL b a.2.2.1 c))) (c.set b.toNat ((bV.mk (ix c b).now a.1 a.2.2.2):bV)))) else none)
def mN (q:fy):Option ((List Int)):=(bif (decide ((0:Int)<q.Next)) then (bif (decide ((([q.Next]:List Int)++q.List).length*8<=140737488355328)) then (some ((([q.Next]:List Int)++q.List))) else none) else ((ff q.List).bind λa=>(some (a))))
def nw (b:List Int):Int×(List (Int×Int))->Option (((Int×(List (Int×Int))) ⊕ (Int))):=λ(a,c)=>(bif (decide (a<(b.length:Int))) then (bif ((decide ((0:Int)<=a))&&(decide (a<(b.length:Int)))) then (bif (decide ((0:Int)<(fV c (ix b a)))) then (Option.map Sum.inr (some (a))) else (some (Sum.inl ((i64.wrap (a+1)),(iy c (ix b a) 1))))) else none) else (Option.map Sum.inr (some ((-1)))))
def ny (d b:List Int):Int×(List (Int×Int))->Option (((Int×(List (Int×Int))) ⊕ (Int))):=λ(a,c)=>(bif (decide (a<(d.length:Int))) then (bif ((decide ((0:Int)<=a))&&(decide (a<(d.length:Int)))) then (some (Sum.inl ((i64.wrap (a+1)),(iy c (ix d a) 1)))) else none) else (Option.map Sum.inr (dF (nw b) (0,c))))
def mg (a b:List Int):Option (Int):=(dF (ny a b) (0,[]))
def kp (q:fy) (a:Int) (c:List Int):Int->Option (((Int) ⊕ (Int×cD×List Int×List Int))):=λb=>(bif (decide (b<(c.length:Int))) then (bif ((decide ((0:Int)<=b))&&(decide (b<(c.length:Int)))) then (bif (decide ((ix c b)<1)) then ((ig 5 b).bind λg=>(Option.map Sum.inr (some (0,g,[],[])))) else (some (Sum.inl ((i64.wrap (b+1)))))) else none) else (Option.map Sum.inr ((mN q).bind λj=>((mg j c).bind λe=>(bif (decide ((0:Int)<=e)) then ((ig 8 e).bind λi=>(some (0,i,[],[]))) else (bif ((decide (a<1))||(decide ((64:Int)<a))) then ((ig 3 (-1)).bind λf=>(some (0,f,[],[]))) else (bif (a != 0) then ((kC q).bind λd=>(bif ((decide ((0:Int)<=(min (min (min (i64.wrap ((i64.wrap (Int.tdiv (c.length:Int) a))+1)) (c.length:Int)) 128) (i64.wrap ((256:Int)-(q.List.length:Int))))))&&(decide ((min (min (min (i64.wrap ((i64.wrap (Int.tdiv (c.length:Int) a))+1)) (c.length:Int)) 128) (i64.wrap ((256:Int)-(q.List.length:Int))))<=(c.length:Int)))) then (bif (decide ((d++(cut c (0:Int) (min (min (min (i64.wrap ((i64.wrap (Int.tdiv (c.length:Int) a))+1)) (c.length:Int)) 128) (i64.wrap ((256:Int)-(q.List.length:Int)))))).length*8<=140737488355328)) then (bif ((decide ((0:Int)<=(min (min (min (i64.wrap ((i64.wrap (Int.tdiv (c.length:Int) a))+1)) (c.length:Int)) 128) (i64.wrap ((256:Int)-(q.List.length:Int))))))&&(decide ((min (min (min (i64.wrap ((i64.wrap (Int.tdiv (c.length:Int) a))+1)) (c.length:Int)) 128) (i64.wrap ((256:Int)-(q.List.length:Int))))<=(c.length:Int)))) then ((ff (cut c (min (min (min (i64.wrap ((i64.wrap (Int.tdiv (c.length:Int) a))+1)) (c.length:Int)) 128) (i64.wrap ((256:Int)-(q.List.length:Int)))) (c.length:Int))).bind λh=>(some (q.Next,(cD.mk 0 0),(d++(cut c (0:Int) (min (min (min (i64.wrap ((i64.wrap (Int.tdiv (c.length:Int) a))+1)) (c.length:Int)) 128) (i64.wrap ((256:Int)-(q.List.length:Int)))))),h))) else none) else none) else none)) else none)))))))
def jh (q:fy) (b:Int) (d:List Int):Option (Int×cD×List Int×List Int):=((kB q).bind λa=>(bif (a.Code != 0) then (some (0,a,[],[])) else (bif (decide ((5000:Int)<(d.length:Int))) then ((ig 2 (-1)).bind λc=>(some (0,c,[],[]))) else (dF (kp q b d) (0)))))
def ji (c f:fy) (k:Bool):Int->Option (((Int) ⊕ (Int×Int×Int×cD×List Int×List Int))):=λd=>(bif (decide (d<((([c,f]:List fy).length:Nat):Int))) then (bif ((decide ((0:Int)<=d))&&(decide (d<((([c,f]:List fy).length:Nat):Int)))) then ((kB (ix ([c,f]:List fy) d)).bind λe=>(bif (e.Code != 0) then (Option.map Sum.inr (some (0,0,0,e,[],[]))) else (some (Sum.inl ((i64.wrap (d+1))))))) else none) else (Option.map Sum.inr ((mN c).bind λh=>((mN f).bind λl=>((mg h l).bind λj=>(bif (decide ((0:Int)<=j)) then ((ig 8 0).bind λi=>(some (0,0,0,i,[],[]))) else ((kC c).bind λa=>((kC f).bind λb=>(bif ((a.length:Int)==0) then (bif ((!k)||((c.Next==0)||((i64.wrap ((256:Int)-(b.length:Int)))==0))) then (some (c.Next,f.Next,0,(cD.mk 0 0),a,b)) else (bif (decide ((b++([c.Next]:List Int)).length*8<=140737488355328)) then (some (0,f.Next,1,(cD.mk 0 0),a,(b++([c.Next]:List Int)))) else none)) else (bif ((decide ((0:Int)<=(min (i64.wrap ((a.length:Int)-(i64.wrap (Int.tdiv (a.length:Int) 2)))) (i64.wrap ((256:Int)-(b.length:Int))))))&&(decide ((min (i64.wrap ((a.length:Int)-(i64.wrap (Int.tdiv (a.length:Int) 2)))) (i64.wrap ((256:Int)-(b.length:Int))))<=(a.length:Int)))) then (bif (decide ((b++(cut a (0:Int) (min (i64.wrap ((a.length:Int)-(i64.wrap (Int.tdiv (a.length:Int) 2)))) (i64.wrap ((256:Int)-(b.length:Int)))))).length*8<=140737488355328)) then (bif ((decide ((0:Int)<=(min (i64.wrap ((a.length:Int)-(i64.wrap (Int.tdiv (a.length:Int) 2)))) (i64.wrap ((256:Int)-(b.length:Int))))))&&(decide ((min (i64.wrap ((a.length:Int)-(i64.wrap (Int.tdiv (a.length:Int) 2)))) (i64.wrap ((256:Int)-(b.length:Int))))<=(a.length:Int)))) then ((ff (cut a (min (i64.wrap ((a.length:Int)-(i64.wrap (Int.tdiv (a.length:Int) 2)))) (i64.wrap ((256:Int)-(b.length:Int)))) (a.length:Int))).bind λg=>(some (c.Next,f.Next,(min (i64.wrap ((a.length:Int)-(i64.wrap (Int.tdiv (a.length:Int) 2)))) (i64.wrap ((256:Int)-(b.length:Int)))),(cD.mk 0 0),g,(b++(cut a (0:Int) (min (i64.wrap ((a.length:Int)-(i64.wrap (Int.tdiv (a.length:Int) 2)))) (i64.wrap ((256:Int)-(b.length:Int))))))))) else none) else none) else none))))))))))
def nA (a c:fy) (b:Bool):Option (Int×Int×Int×cD×List Int×List Int):=(dF (ji a c b) (0))
def j_ (p:Int) (e:List Int):Int×(List bV)->Option (((Int×List bV) ⊕ (Bool×List Int×List bV))):=λ(d,a)=>(bif (decide (0<=p/\p<(a.length:Int))) then (bif (decide (d<(a.length:Int))) then (bif ((a.length:Int) != 0) then (bif ((decide ((0:Int)<=(Int.tmod (i64.wrap (p+d)) (a.length:Int))))&&(decide ((Int.tmod (i64.wrap (p+d)) (a.length:Int))<(a.length:Int)))) then ((nA (fy.mk (ix a (Int.tmod (i64.wrap (p+d)) (a.length:Int))).Ring_Next (ix a (Int.tmod (i64.wrap (p+d)) (a.length:Int))).Ring_List) (fy.mk (ix a p).Ring_Next (ix a p).Ring_List) true).bind λb=>(bif (decide ((0:Int)<b.2.2.1)) then ((λz0:List bV=>((λz1:List bV=>((dU p z1).bind λc=>(bif (decide (c.2.length=z1.length)) then (bif (decide (0<=p/\p<(c.2.length:Int))) then (Option.map Sum.inr (some (c.1,e,c.2))) else none) else none))) (z0.set p.toNat ((bV.mk (ix z0 p).now b.2.1 b.2.2.2.2.2):bV)))) (a.set (Int.tmod (i64.wrap (p+d)) (a.length:Int)).toNat ((bV.mk (ix a (Int.tmod (i64.wrap (p+d)) (a.length:Int))).now b.1 b.2.2.2.2.1):bV))) else (some (Sum.inl ((i64.wrap (d+1)),a))))) else none) else none) else (Option.map Sum.inr (some (false,e,a)))) else none)
def gq (p:Int) (e:List bV) (d:List Int):Option (Bool×List Int×List bV):=(bif ((decide ((0:Int)<=p))&&(decide (p<(e.length:Int)))) then ((dU p e).bind λa=>(bif (decide (a.2.length=e.length)) then (bif (decide (0<=p/\p<(a.2.length:Int))) then (bif a.1 then (some (true,d,a.2)) else (bif (decide ((0:Int)<(d.length:Int))) then ((jh (fy.mk (ix a.2 p).Ring_Next (ix a.2 p).Ring_List) (a.2.length:Int) d).bind λb=>((λz0:List bV=>((dU p z0).bind λc=>(bif (decide (c.2.length=z0.length)) then (bif (decide (0<=p/\p<(c.2.length:Int))) then (some (c.1,b.2.2.2,c.2)) else none) else none))) (a.2.set p.toNat ((bV.mk (ix a.2 p).now b.1 b.2.2.1):bV)))) else (dF (j_ p d) (1,a.2)))) else none) else none)) else none)
def dL (t:Int) (a:List cq):Option (Int):=(bif ((decide ((0:Int)<=(i64.wrap (t-1))))&&(decide ((i64.wrap (t-1))<(a.length:Int)))) then (some ((i64.wrap (t-1)))) else none)
def oQ (a:Int):Option (Bool):=(some (((decide ((1:Int)<=a))&&(decide (a<=7)))))
def gG (b:Int) (a:List cq):Option (Int×List cq):=(some ((i64.wrap (b+1)),a))
def mh (c:dg) (d b:Int) (a:List cq):Option (Int×List cq):=(bif (decide (0<=b/\b<(a.length:Int))) then (bif (c.Op==1) then (bif ((decide ((0:Int)<=c.A))&&(decide (c.A<((8:Nat):Int)))) then (gG d (a.set b.toNat ((cq.mk (ix a b).pc ((ix a b).r.set c.A c.B) (ix a b).state (ix a b).when (ix a b).seq):cq))) else none) else (bif (c.Op==2) then (bif ((decide ((0:Int)<=c.B))&&(decide (c.B<((8:Nat):Int)))) then (bif ((decide ((0:Int)<=c.A))&&(decide (c.A<((8:Nat):Int)))) then (gG d (a.set b.toNat ((cq.mk (ix a b).pc ((ix a b).r.set c.A ((ix a b).r.get c.B)) (ix a b).state (ix a b).when (ix a b).seq):cq))) else none) else none) else (bif (c.Op==3) then (bif ((decide ((0:Int)<=c.A))&&(decide (c.A<((8:Nat):Int)))) then (bif ((decide ((0:Int)<=c.B))&&(decide (c.B<((8:Nat):Int)))) then (gG d (a.set b.toNat ((cq.mk (ix a b).pc ((ix a b).r.set c.A (i64.wrap (((ix a b).r.get c.A)+((ix a b).r.get c.B)))) (ix a b).state (ix a b).when (ix a b).seq):cq))) else none) else none) else (bif (c.Op==4) then (bif ((decide ((0:Int)<=c.A))&&(decide (c.A<((8:Nat):Int)))) then (bif ((decide ((0:Int)<=c.B))&&(decide (c.B<((8:Nat):Int)))) then (gG d (a.set b.toNat ((cq.mk (ix a b).pc ((ix a b).r.set c.A (i64.wrap (((ix a b).r.get c.A)-((ix a b).r.get c.B)))) (ix a b).state (ix a b).when (ix a b).seq):cq))) else none) else none) else (bif (c.Op==5) then (bif ((decide ((0:Int)<=c.A))&&(decide (c.A<((8:Nat):Int)))) then (bif ((decide ((0:Int)<=c.B))&&(decide (c.B<((8:Nat):Int)))) then (gG d (a.set b.toNat ((cq.mk (ix a b).pc ((ix a b).r.set c.A (mV [(true,1)] (decide (((ix a b).r.get c.A)<((ix a b).r.get c.B))))) (ix a b).state (ix a b).when (ix a b).seq):cq))) else none) else none) else (bif (c.Op==6) then (some (c.A,a)) else (bif (c.Op==7) then (bif ((decide ((0:Int)<=c.A))&&(decide (c.A<((8:Nat):Int)))) then (bif (((ix a b).r.get c.A)==0) then (some (c.B,a)) else (gG d a)) else none) else (gG d a)))))))) else none)
def dq (t d b a:Int) (c:List cz):Option ((List cz)):=(bif (decide ((c++([(cz.mk t d b a)]:List cz)).length*32<=140737488355328)) then (some ((c++([(cz.mk t d b a)]:List cz)))) else none)
def i4 (c t:Int) (b:List cq) (d:List bV) (e:List Int):Option (Bool×List Int×List cq×List bV):=(bif (decide (0<=c/\c<(d.length:Int))) then ((dL t b).bind λa=>(bif (decide (0<=a/\a<(b.length:Int))) then (bif (decide ((e++([t]:List Int)).length*8<=140737488355328)) then (some (false,(e++([t]:List Int)),(b.set a.toNat ((cq.mk (i64.wrap ((ix b a).pc+1)) (ix b a).r (ix b a).state (ix b a).when (ix b a).seq):cq)),(d.set c.toNat ((bV.mk 0 (ix d c).Ring_Next (ix d c).Ring_List):bV)))) else none) else none)) else none)
def i5 (s:List Int) (v:Int):Int->Option (((Int) ⊕ (Int))):=λa=>(bif (decide (a<(s.length:Int))) then (bif ((decide ((0:Int)<=a))&&(decide (a<(s.length:Int)))) then (bif (v==(ix s a)) then (Option.map Sum.inr (some (a))) else (some (Sum.inl ((i64.wrap (a+1)))))) else none) else (Option.map Sum.inr (some ((-1)))))
def nB (s:List Int) (v:Int):Option (Int):=(dF (i5 s v) (0))
def ie (s:List Int) (v:Int):Option (Bool):=((nB s v).bind λa=>(some ((decide ((0:Int)<=a)))))
def rc (t:Int) (b:List Int):Option ((List Int)×List Int):=(bif (decide ((b.length:Int)<256)) then (bif (decide ((b++([t]:List Int)).length*8<=140737488355328)) then (some ([],(b++([t]:List Int)))) else none) else (bif (decide ((128:Int)<=(b.length:Int))) then ((ff (cut b (0:Int) (128:Int))).bind λa=>(bif (decide ((a++([t]:List Int)).length*8<=140737488355328)) then (bif (decide ((128:Int)<=(b.length:Int))) then ((ff (cut b (128:Int) (b.length:Int))).bind λc=>(some ((a++([t]:List Int)),c))) else none) else none)) else none))
def pk (c a:Int) (d:List Int):Option (Int×cD×List Int×List Int):=((rc c d).bind λb=>(some (a,(cD.mk 0 0),b.2,b.1)))
def qR (q:fy) (a:Int) (h:Bool):Option (Int×cD×List Int×List Int):=((kB q).bind λc=>(bif (c.Code != 0) then (some (0,c,[],[])) else (bif (decide (a<1)) then ((ig 3 (-1)).bind λd=>(some (0,d,[],[]))) else ((mN q).bind λf=>((ie f a).bind λe=>(bif e then ((ig 10 (-1)).bind λg=>(some (0,g,[],[]))) else ((kC q).bind λb=>(bif h then (bif (q.Next==0) then (some (a,(cD.mk 0 0),b,[])) else (pk q.Next a b)) else (pk a q.Next b)))))))))
def i6 (d t:Int) (c:List cq) (e:List bV) (f:List Int):Option ((List Int)×List cq×List bV):=(bif (decide (0<=d/\d<(e.length:Int))) then ((qR (fy.mk (ix e d).Ring_Next (ix e d).Ring_List) t true).bind λb=>(bif (decide ((f++b.2.2.2).length*8<=140737488355328)) then ((dL t c).bind λa=>(bif (decide (0<=a/\a<(c.length:Int))) then (some ((f++b.2.2.2),(c.set a.toNat ((cq.mk (ix c a).pc (ix c a).r 0 (ix c a).when (ix c a).seq):cq)),(e.set d.toNat ((bV.mk (ix e d).now b.1 b.2.2.1):bV)))) else none)) else none)) else none)
def jj (a b:Int):Option (cD):=(some ((cD.mk a b)))
def pC (l:List cI):Int×(List (Int×Int))->Option (((Int×(List (Int×Int))) ⊕ (Int×(List (Int×Int))))):=λ(a,b)=>(bif (decide (a<(l.length:Int))) then (bif ((decide ((0:Int)<=a))&&(decide (a<(l.length:Int)))) then (bif ((decide ((ix l a).Task<1))||(decide ((ix l a).Case<0))) then (Option.map Sum.inr (some (3,b))) else (bif (decide ((0:Int)<(fV b (ix l a).Task))) then (Option.map Sum.inr (some (10,b))) else (some (Sum.inl ((i64.wrap (a+1)),(iy b (ix l a).Task 1)))))) else none) else (Option.map Sum.inr (some (0,b))))
def qm (l:List cI) (a:(List (Int×Int))):Option (Int×(List (Int×Int))):=(dF (pC l) (0,a))
def nL (p:cR):Int->Option (((Int) ⊕ (cD))):=λa=>(bif (decide (a<(p.Getters.length:Int))) then (bif ((decide ((0:Int)<=a))&&(decide (a<(p.Getters.length:Int)))) then (bif ((ix p.Getters a).Value != 0) then ((jj 5 2).bind λb=>(Option.map Sum.inr (some (b)))) else (some (Sum.inl ((i64.wrap (a+1)))))) else none) else (Option.map Sum.inr (some ((cD.mk 0 0)))))
def oR (p:cR):Option (cD):=(bif (decide ((5000:Int)<(i64.wrap ((i64.wrap ((p.Items.length:Int)+(p.Senders.length:Int)))+(p.Getters.length:Int))))) then ((jj 2 0).bind λg=>(some (g))) else (bif ((decide (p.Cap<0))||(decide ((1000:Int)<p.Cap))) then ((jj 3 0).bind λe=>(some (e))) else (bif (decide (p.Cap<(p.Items.length:Int))) then ((jj 8 0).bind λd=>(some (d))) else (bif (bif (decide ((0:Int)<(p.Senders.length:Int))) then (p.Closed||((decide ((p.Items.length:Int)<p.Cap))||((decide ((0:Int)<(p.Getters.length:Int)))||((decide ((0:Int)<(p.Getters.length:Int)))&&(p.Closed||(decide ((0:Int)<(p.Items.length:Int)))))))) else ((decide ((0:Int)<(p.Getters.length:Int)))&&(p.Closed||(decide ((0:Int)<(p.Items.length:Int)))))) then ((jj 5 0).bind λf=>(some (f))) else ((qm p.Senders []).bind λa=>(bif (a.1 != 0) then ((jj a.1 1).bind λc=>(some (c))) else ((qm p.Getters a.2).bind λb=>(bif (b.1 != 0) then ((jj b.1 2).bind λh=>(some (h))) else (dF (nL p) (0))))))))))
def qn (x:cI) (a:Int):Option (Bool):=(some ((x.Task==a)))
def iD (s:List cI) (f:Int):Int->Option (((Int) ⊕ (Int))):=λa=>(bif (decide (a<(s.length:Int))) then (bif ((decide ((0:Int)<=a))&&(decide (a<(s.length:Int)))) then ((qn (ix s a) f).bind λb=>(bif b then (Option.map Sum.inr (some (a))) else (some (Sum.inl ((i64.wrap (a+1))))))) else none) else (Option.map Sum.inr (some ((-1)))))
def kU (s:List cI) (f:Int):Option (Int):=(dF (iD s f) (0))
def gK (s:List cI) (f:Int):Option (Bool):=((kU s f).bind λa=>(some ((decide ((0:Int)<=a)))))
def nM (a:Bool):Option (Bool):=(some (a))
def sf (p:cR) (a:Int):Option (Bool):=((gK p.Senders a).bind λb=>(bif b then (nM true) else ((gK p.Getters a).bind λc=>(nM c))))
def oS (p:cR) (b:Int):Option (cD):=((oR p).bind λa=>(bif (a.Code != 0) then (some (a)) else (bif (decide (b<1)) then ((jj 3 (-1)).bind λc=>(some (c))) else ((sf p b).bind λd=>(bif d then ((jj 10 (-1)).bind λe=>(some (e))) else (bif ((i64.wrap ((i64.wrap ((p.Items.length:Int)+(p.Senders.length:Int)))+(p.Getters.length:Int)))==5000) then ((jj 9 0).bind λf=>(some (f))) else (some ((cD.mk 0 0)))))))))
def j6 (s:List cI):Option ((List cI)):=(bif (decide ((([]:List cI)++s).length*24<=140737488355328)) then (some ((([]:List cI)++s))) else none)
def oz (p:cR):Option ((List Int)×List cI×List cI):=((ff p.Items).bind λc=>((j6 p.Senders).bind λb=>((j6 p.Getters).bind λa=>(some (c,b,a)))))
def sg (x:cI) (c:Int) (a:Bool) (d:List Int) (b:List cI):Option (Bool×Bool×Int×List de×List Int×List cI):=(bif a then (some (true,true,x.Case,[],d,b)) else (bif (decide ((0:Int)<(b.length:Int))) then (bif (decide ((0:Int)<(b.length:Int))) then (bif (decide ((1:Int)<=(b.length:Int))) then (some (true,false,x.Case,([(de.mk (ix b (0:Int)).Task (ix b (0:Int)).Case x.Value true false)]:List de),d,(cut b (1:Int) (b.length:Int)))) else none) else none) else (bif (decide ((d.length:Int)<c)) then (bif (decide ((d++([x.Value]:List Int)).length*8<=140737488355328)) then (some (true,false,x.Case,[],(d++([x.Value]:List Int)),b)) else none) else (some (false,false,0,[],d,b)))))
def oA (p:cR) (b a:Bool) (c:Int) (g:List Int) (f d:List cI) (e:List de):Option (Int×Bool×Bool×Bool×Int×cD×List Int×List cI×List cI×List de):=(some (p.Cap,p.Closed,b,a,c,(cD.mk 0 0),g,f,d,e))
def mC (p:cR) (c d:Int) (f:Bool):Option (Int×Bool×Bool×Bool×Int×cD×List Int×List cI×List cI×List de):=((oS p c).bind λe=>(bif (e.Code != 0) then (some (0,false,false,false,0,e,[],[],[],[])) else ((oz p).bind λb=>((sg (cI.mk c 0 d) p.Cap p.Closed b.1 b.2.2).bind λa=>(bif ((!a.1)&&(!f)) then (bif (decide ((b.2.1++([(cI.mk c 0 d)]:List cI)).length*24<=140737488355328)) then (oA p a.1 a.2.1 a.2.2.1 a.2.2.2.2.1 (b.2.1++([(cI.mk c 0 d)]:List cI)) a.2.2.2.2.2 a.2.2.2.1) else none) else (oA p a.1 a.2.1 a.2.2.1 a.2.2.2.2.1 b.2.1 a.2.2.2.2.2 a.2.2.2.1))))))
def dH (t b:Int) (c:List cz):Option ((List cz)):=((dq t 22 b 0 c).bind λa=>(some (a)))
def fZ (t:Int) (b:List cq):Option (Bool×List cq):=((dL t b).bind λa=>(bif (decide (0<=a/\a<(b.length:Int))) then (some (false,(b.set a.toNat ((cq.mk (ix b a).pc (ix b a).r 1 (ix b a).when (ix b a).seq):cq)))) else none))
def gE (t:Int) (d:dg) (c:Int) (g:Bool) (f:List cz) (b:List cq):Option ((List cz)×List cq):=((dL t b).bind λa=>(bif (decide (0<=a/\a<(b.length:Int))) then (bif ((decide ((0:Int)<=d.A))&&(decide (d.A<((8:Nat):Int)))) then ((dq t 15 d.B c f).bind λe=>((λz0:List cq=>(some (e,(z0.set a.toNat ((cq.mk (ix z0 a).pc ((ix z0 a).r.set (7:Int) (mV [(true,1)] g)) (ix z0 a).state (ix z0 a).when (ix z0 a).seq):cq))))) (b.set a.toNat ((cq.mk (ix b a).pc ((ix b a).r.set d.A c) (ix b a).state (ix b a).when (ix b a).seq):cq)))) else none) else none))
def fW (d t:Int) (c:List cq) (e:List bV) (f:List Int):Option ((List Int)×List cq×List bV):=(bif (decide (0<=d/\d<(e.length:Int))) then ((dL t c).bind λa=>(bif (decide (0<=a/\a<(c.length:Int))) then ((i6 d t (c.set a.toNat ((cq.mk (i64.wrap ((ix c a).pc+1)) (ix c a).r (ix c a).state (ix c a).when (ix c a).seq):cq)) e f).bind λb=>(bif (decide (0<=d/\d<(b.2.2.length:Int))) then (some (b.1,b.2.1,b.2.2)) else none)) else none)) else none)
def hU (g:Int) (l:List de) (b:Int) (d:List bV) (f:List Int) (e:List cq) (c:List cz):Option (((Int×List cq×List bV×List cz×List Int) ⊕ (Int×List cz×List Int×List cq×List bV))):=(bif (decide (0<=g/\g<(d.length:Int))) then ((fW g (ix l b).Task e d f).bind λa=>(bif (decide (0<=g/\g<(a.2.2.length:Int))) then (some (Sum.inl ((i64.wrap (b+1)),a.2.1,a.2.2,c,a.1))) else none)) else none)
def e_ (n p:Int) (l:List de) (a:List dg) (e:Int):Int×List cq×List bV×List cz×(List Int)->Option (((Int×List cq×List bV×List cz×List Int) ⊕ (Int×List cz×List Int×List cq×List bV))):=λ(c,b,h,g,f)=>(bif (decide (0<=n/\n<(h.length:Int))) then (bif (decide (c<(l.length:Int))) then (bif ((decide ((0:Int)<=c))&&(decide (c<(l.length:Int)))) then ((dL (ix l c).Task b).bind λd=>(bif (decide (0<=d/\d<(b.length:Int))) then (bif ((decide ((0:Int)<=(ix b d).pc))&&(decide ((ix b d).pc<(a.length:Int)))) then (bif (ix l c).Panic then ((dH (ix l c).Task p g).bind λk=>(Option.map Sum.inr (some (2,k,f,b,h)))) else (bif ((ix a (ix b d).pc).Op==14) then ((dL (ix l c).Task b).bind λi=>(bif (decide (0<=i/\i<(b.length:Int))) then (bif ((decide ((0:Int)<=(ix a (ix b d).pc).B))&&(decide ((ix a (ix b d).pc).B<((8:Nat):Int)))) then ((dq (ix l c).Task (ix a (ix b d).pc).Op p ((ix b i).r.get (ix a (ix b d).pc).B) g).bind λm=>(hU n l c h f b m)) else none) else none)) else ((gE (ix l c).Task (ix a (ix b d).pc) (ix l c).Value (ix l c).Ok g b).bind λj=>(hU n l c h f j.2 j.1)))) else none) else none)) else none) else (Option.map Sum.inr (some (e,g,f,b,h)))) else none)
def dG (c p:Int) (l:List de) (a:List dg) (b:Int) (f:List cz) (e:List cq) (d:List bV) (g:List Int):Option (Int×List cz×List Int×List cq×List bV):=(bif (decide (0<=c/\c<(d.length:Int))) then (dF (e_ c p l a b) (0,e,d,f,g)) else none)
def lg (x:cI) (b:Bool) (a:List Int) (c:List cI) (d:List de):Option (Bool×Bool×Int×Int×List de×List Int×List cI):=(bif (decide ((0:Int)<(a.length:Int))) then (bif (decide ((0:Int)<(a.length:Int))) then (bif (decide ((1:Int)<=(a.length:Int))) then (some (true,true,(ix a (0:Int)),x.Case,d,(cut a (1:Int) (a.length:Int)),c)) else none) else none) else (bif b then (some (true,false,0,x.Case,[],a,c)) else (some (false,false,0,0,[],a,c))))
def si (x:cI) (a:Bool) (c:List Int) (b:List cI):Option (Bool×Bool×Int×Int×List de×List Int×List cI):=(bif (decide ((0:Int)<(b.length:Int))) then (bif (decide ((0:Int)<(b.length:Int))) then (bif (decide ((1:Int)<=(b.length:Int))) then (bif (decide ((c++([(ix b (0:Int)).Value]:List Int)).length*8<=140737488355328)) then (lg x a (c++([(ix b (0:Int)).Value]:List Int)) (cut b (1:Int) (b.length:Int)) ([(de.mk (ix b (0:Int)).Task (ix b (0:Int)).Case 0 false false)]:List de)) else none) else none) else none) else (lg x a c b []))
def pm (p:cR) (b d:Bool) (a c:Int) (g:List Int) (f e:List cI) (h:List de):Option (Int×Bool×Bool×Bool×Int×Int×cD×List Int×List cI×List cI×List de):=(some (p.Cap,p.Closed,b,d,a,c,(cD.mk 0 0),g,f,e,h))
def lT (p:cR) (c:Int) (e:Bool):Option (Int×Bool×Bool×Bool×Int×Int×cD×List Int×List cI×List cI×List de):=((oS p c).bind λd=>(bif (d.Code != 0) then (some (0,false,false,false,0,0,d,[],[],[],[])) else ((oz p).bind λb=>((si (cI.mk c 0 0) p.Closed b.1 b.2.1).bind λa=>(bif ((!a.1)&&(!e)) then (bif (decide ((b.2.2++([(cI.mk c 0 0)]:List cI)).length*24<=140737488355328)) then (pm p a.1 a.2.1 a.2.2.1 a.2.2.2.1 a.2.2.2.2.2.1 a.2.2.2.2.2.2 (b.2.2++([(cI.mk c 0 0)]:List cI)) a.2.2.2.2.1) else none) else (pm p a.1 a.2.1 a.2.2.1 a.2.2.2.1 a.2.2.2.2.2.1 a.2.2.2.2.2.2 b.2.2 a.2.2.2.2.1))))))
def m6 (c:List cI):Int×(List de)->Option (((Int×List de) ⊕ (Bool×List de×Bool×List cI×List cI))):=λ(a,b)=>(bif (decide (a<(c.length:Int))) then (bif ((decide ((0:Int)<=a))&&(decide (a<(c.length:Int)))) then (bif (decide ((b++([(de.mk (ix c a).Task (ix c a).Case 0 false true)]:List de)).length*32<=140737488355328)) then (some (Sum.inl ((i64.wrap (a+1)),(b++([(de.mk (ix c a).Task (ix c a).Case 0 false true)]:List de))))) else none) else none) else (Option.map Sum.inr (some (false,b,true,[],[]))))
def m7 (d c:List cI):Int×(List de)->Option (((Int×List de) ⊕ (Bool×List de×Bool×List cI×List cI))):=λ(a,b)=>(bif (decide (a<(c.length:Int))) then (bif ((decide ((0:Int)<=a))&&(decide (a<(c.length:Int)))) then (bif (decide ((b++([(de.mk (ix c a).Task (ix c a).Case 0 false false)]:List de)).length*32<=140737488355328)) then (some (Sum.inl ((i64.wrap (a+1)),(b++([(de.mk (ix c a).Task (ix c a).Case 0 false false)]:List de))))) else none) else none) else (Option.map Sum.inr (dF (m6 d) (0,b))))
def rh (a:Bool) (b c:List cI):Option (Bool×List de×Bool×List cI×List cI):=(bif a then (some (true,[],a,b,c)) else (dF (m7 b c) (0,[])))
def oB (p:cR):Option (Int×Bool×Bool×Bool×cD×List Int×List cI×List cI×List de):=((oR p).bind λc=>(bif (c.Code != 0) then (some (0,false,false,false,c,[],[],[],[])) else ((oz p).bind λb=>((rh p.Closed b.2.1 b.2.2).bind λa=>(some (p.Cap,a.2.2.1,true,a.1,(cD.mk 0 0),b.1,a.2.2.2.1,a.2.2.2.2,a.2.1))))))
def d5 (a:Int) (b:List cz) (c:List Int) (d:List cq) (e:List bV) (f:List cR):Option (Bool×Int×List cz×List Int×List cq×List bV×List cR):=(some (true,a,b,c,d,e,f))
def fc (l t:Int) (j:dg) (c:List dg) (m:List cR) (a:Int) (k:List cq) (f:List bV) (h:List cR) (e:lj) (i:List cz) (g:List Int):Option (Bool×Int×List cz×List Int×List cq×List bV×List cR):=(bif (decide (0<=l/\l<(f.length:Int))) then ((gE t j e.Value e.Ok i k).bind λd=>(bif (decide ((0:Int)<(((ix m j.B).Items.length:Nat):Int))) then ((dG l j.B e.Wakes c a d.1 d.2 f g).bind λb=>(bif (decide (0<=l/\l<(b.2.2.2.2.length:Int))) then (d5 b.1 b.2.1 b.2.2.1 b.2.2.2.1 b.2.2.2.2 h) else none)) else (d5 a d.1 g d.2 f h))) else none)
def eE (n t:Int) (c:dg) (d:List dg) (b:Int) (q:List cz) (m:List cq) (p:List bV) (s:List Int) (k:List cR):Option (Bool×Int×List cz×List Int×List cq×List bV×List cR):=(bif (decide (0<=n/\n<(p.length:Int))) then ((dL t m).bind λj=>(bif (decide (0<=j/\j<(m.length:Int))) then (bif (c.Op==14) then (bif ((decide ((0:Int)<=c.A))&&(decide (c.A<(k.length:Int)))) then (bif ((decide ((0:Int)<=c.B))&&(decide (c.B<((8:Nat):Int)))) then ((mC (ix k c.A) t ((ix m j).r.get c.B) false).bind λe=>(bif ((decide ((0:Int)<=c.A))&&(decide (c.A<(k.length:Int)))) then ((λz1:List cR=>(bif e.2.2.2.1 then ((dH t c.A q).bind λw=>(some (false,2,w,s,m,p,z1))) else (bif (!e.2.2.1) then ((fZ t m).bind λl=>(bif (decide (0<=j/\j<(l.2.length:Int))) then (some (l.1,b,q,s,l.2,p,z1)) else none)) else ((dq t c.Op c.A ((ix m j).r.get c.B) q).bind λv=>((dG n c.A e.2.2.2.2.2.2.2.2.2 d b v m p s).bind λh=>(bif (decide (0<=n/\n<(h.2.2.2.2.length:Int))) then (d5 h.1 h.2.1 h.2.2.1 h.2.2.2.1 h.2.2.2.2 z1) else none)))))) (k.set c.A.toNat ((cR.mk e.1 e.2.2.2.2.2.2.1 e.2.1 e.2.2.2.2.2.2.2.1 e.2.2.2.2.2.2.2.2.1):cR))) else none)) else none) else none) else (bif (c.Op==15) then (bif ((decide ((0:Int)<=c.B))&&(decide (c.B<(k.length:Int)))) then (bif ((decide ((0:Int)<=c.B))&&(decide (c.B<(k.length:Int)))) then ((lT (ix k c.B) t false).bind λa=>(bif ((decide ((0:Int)<=c.B))&&(decide (c.B<(k.length:Int)))) then ((λz0:List cR=>(bif (!a.2.2.1) then ((fZ t m).bind λo=>(some (o.1,b,q,s,o.2,p,z0))) else (bif (!(decide ((0:Int)<(((ix k c.B).Items.length:Nat):Int)))) then ((dG n c.B a.2.2.2.2.2.2.2.2.2.2 d b q m p s).bind λi=>(bif (decide (0<=n/\n<(i.2.2.2.2.length:Int))) then (fc n t c d k i.1 i.2.2.2.1 i.2.2.2.2 z0 (lj.mk a.2.2.1 false a.2.2.2.1 a.2.2.2.2.1 a.2.2.2.2.2.1 a.2.2.2.2.2.2.2.2.2.2) i.2.1 i.2.2.1) else none)) else (fc n t c d k b m p z0 (lj.mk a.2.2.1 false a.2.2.2.1 a.2.2.2.2.1 a.2.2.2.2.2.1 a.2.2.2.2.2.2.2.2.2.2) q s)))) (k.set c.B.toNat ((cR.mk a.1 a.2.2.2.2.2.2.2.1 a.2.1 a.2.2.2.2.2.2.2.2.1 a.2.2.2.2.2.2.2.2.2.1):cR))) else none)) else none) else none) else (bif (c.Op==16) then (bif ((decide ((0:Int)<=c.A))&&(decide (c.A<(k.length:Int)))) then ((oB (ix k c.A)).bind λf=>(bif ((decide ((0:Int)<=c.A))&&(decide (c.A<(k.length:Int)))) then ((λz2:List cR=>(bif f.2.2.2.1 then ((dH t c.A q).bind λx=>(some (false,2,x,s,m,p,z2))) else ((dq t c.Op c.A 0 q).bind λu=>((dG n c.A f.2.2.2.2.2.2.2.2 d b u m p s).bind λg=>(bif (decide (0<=n/\n<(g.2.2.2.2.length:Int))) then (d5 g.1 g.2.1 g.2.2.1 g.2.2.2.1 g.2.2.2.2 z2) else none))))) (k.set c.A.toNat ((cR.mk f.1 f.2.2.2.2.2.1 f.2.1 f.2.2.2.2.2.2.1 f.2.2.2.2.2.2.2.1):cR))) else none)) else none) else (d5 b q s m p k)))) else none)) else none)
def jU (a b:Int):Option (cD):=(some ((cD.mk a b)))
def nN (l:di):Int×(List (Int×Int))->Option (((Int×(List (Int×Int))) ⊕ (cD))):=λ(a,b)=>(bif (decide (a<(l.Line.length:Int))) then (bif ((decide ((0:Int)<=a))&&(decide (a<(l.Line.length:Int)))) then (bif (decide ((ix l.Line a).Task<1)) then ((jU 3 (i64.wrap (a+1))).bind λd=>(Option.map Sum.inr (some (d)))) else (bif (decide ((0:Int)<(fV b (ix l.Line a).Task))) then ((jU 10 (i64.wrap (a+1))).bind λc=>(Option.map Sum.inr (some (c)))) else (bif ((ix l.Line a).N != 0) then ((jU 5 (i64.wrap (a+1))).bind λe=>(Option.map Sum.inr (some (e)))) else (some (Sum.inl ((i64.wrap (a+1)),(iy b (ix l.Line a).Task 1))))))) else none) else (Option.map Sum.inr (some ((cD.mk 0 0)))))
def oT (l:di):Option (cD):=(bif (decide ((5000:Int)<(l.Line.length:Int))) then ((jU 2 0).bind λb=>(some (b))) else (bif ((decide (l.Readers<0))||(decide ((1000000000:Int)<l.Readers))) then ((jU 3 0).bind λa=>(some (a))) else (bif ((!((((l.Writer&&(!(decide ((0:Int)<l.Readers))))&&(decide ((0:Int)<(l.Line.length:Int))))&&(!l.Writer))&&(!(l.Readers==0))))||(decide ((0:Int)<(l.Line.length:Int)))) then (bif ((!((((!l.Writer)&&(decide ((0:Int)<(l.Line.length:Int))))&&(!l.Writer))&&(!(l.Readers==0))))||(decide ((0:Int)<(l.Line.length:Int)))) then (bif (bif l.Writer then ((decide ((0:Int)<l.Readers))||((decide ((0:Int)<(l.Line.length:Int)))&&((!l.Writer)&&((l.Readers==0)||(!(ix l.Line (0:Int)).Write))))) else ((decide ((0:Int)<(l.Line.length:Int)))&&((!l.Writer)&&((l.Readers==0)||(!(ix l.Line (0:Int)).Write))))) then ((jU 5 0).bind λc=>(some (c))) else (dF (nN l) (0,[]))) else none) else none)))
def qo (w:dR) (a:Int):Option (Bool):=(some ((w.Task==a)))
def iE (s:List dR) (f:Int):Int->Option (((Int) ⊕ (Int))):=λa=>(bif (decide (a<(s.length:Int))) then (bif ((decide ((0:Int)<=a))&&(decide (a<(s.length:Int)))) then ((qo (ix s a) f).bind λb=>(bif b then (Option.map Sum.inr (some (a))) else (some (Sum.inl ((i64.wrap (a+1))))))) else none) else (Option.map Sum.inr (some ((-1)))))
def kW (s:List dR) (f:Int):Option (Int):=(dF (iE s f) (0))
def iF (s:List dR) (f:Int):Option (Bool):=((kW s f).bind λa=>(some ((decide ((0:Int)<=a)))))
def mW (s:List dR):Option ((List dR)):=(bif (decide ((([]:List dR)++s).length*24<=140737488355328)) then (some ((([]:List dR)++s))) else none)
def lE (l:di):Option ((List dR)):=((mW l.Line).bind λa=>(some (a)))
def n9 (d:List Int) (a:Int) (b:Bool) (c:List dR):Option ((List Int)×Int×Bool×List dR):=(some (d,a,b,c))
def jV:Int×Bool×List Int×(List dR)->Option (((Int×Bool×List Int×List dR) ⊕ ((List Int)×Int×Bool×List dR))):=λ(b,c,d,a)=>(bif ((decide ((0:Int)<(a.length:Int)))&&(!c)) then (bif (decide ((0:Int)<(a.length:Int))) then (bif ((ix a (0:Int)).Write&&(decide ((0:Int)<b))) then (Option.map Sum.inr (n9 d b c a)) else (bif (decide ((1:Int)<=(a.length:Int))) then (bif (decide ((d++([(ix a (0:Int)).Task]:List Int)).length*8<=140737488355328)) then (bif (!(ix a (0:Int)).Write) then (some (Sum.inl ((i64.wrap (b+1)),(ix a (0:Int)).Write,(d++([(ix a (0:Int)).Task]:List Int)),(cut a (1:Int) (a.length:Int))))) else (some (Sum.inl (b,(ix a (0:Int)).Write,(d++([(ix a (0:Int)).Task]:List Int)),(cut a (1:Int) (a.length:Int)))))) else none) else none)) else none) else (Option.map Sum.inr (n9 d b c a)))
def kN (a:Int) (b:Bool) (c:List dR):Option ((List Int)×Int×Bool×List dR):=(dF jV (a,b,[],c))
def mD (l:di) (b:Int) (d m:Bool):Option (Int×Bool×Bool×cD×List dR):=((oT l).bind λe=>(bif (e.Code != 0) then (some (0,false,false,e,[])) else (bif (decide (b<1)) then ((jU 3 (-1)).bind λk=>(some (0,false,false,k,[]))) else ((iF l.Line b).bind λf=>(bif f then ((jU 10 (-1)).bind λg=>(some (0,false,false,g,[]))) else (bif (((l.Line.length:Int)==5000)||(l.Readers==1000000000)) then ((jU 9 0).bind λh=>(some (0,false,false,h,[]))) else ((lE l).bind λc=>(bif (decide ((c++([(dR.mk b d 0)]:List dR)).length*24<=140737488355328)) then ((kN l.Readers l.Writer (c++([(dR.mk b d 0)]:List dR))).bind λa=>((ie a.1 b).bind λi=>(bif i then (some (a.2.1,a.2.2.1,true,(cD.mk 0 0),a.2.2.2)) else (bif m then ((lE l).bind λj=>(some (l.Readers,l.Writer,false,(cD.mk 0 0),j))) else (some (a.2.1,a.2.2.1,false,(cD.mk 0 0),a.2.2.2)))))) else none))))))))
def nO (a:Int) (c:Bool) (d:List dR):Option (Int×Bool×Bool×cD×List dR×List Int):=((kN a c d).bind λb=>(some (b.2.1,b.2.2.1,false,(cD.mk 0 0),b.2.2.2,b.1)))
def nC (l:di) (a:Bool):Option (Int×Bool×Bool×cD×List dR×List Int):=((oT l).bind λb=>(bif (b.Code != 0) then (some (0,false,false,b,[],[])) else (bif (bif a then ((!l.Writer)||((!a)&&(l.Readers==0))) else ((!a)&&(l.Readers==0))) then ((lE l).bind λd=>(some (l.Readers,l.Writer,true,(cD.mk 0 0),d,[]))) else ((lE l).bind λc=>(bif a then (nO l.Readers false c) else (nO (i64.wrap (l.Readers-1)) l.Writer c))))))
def jk (a b:Int):Option (cD):=(some ((cD.mk a b)))
def qp (l:List Int):Int×(List (Int×Int))->Option (((Int×(List (Int×Int))) ⊕ (cD))):=λ(a,b)=>(bif (decide (a<(l.length:Int))) then (bif ((decide ((0:Int)<=a))&&(decide (a<(l.length:Int)))) then (bif (decide ((ix l a)<1)) then ((jk 3 (i64.wrap (a+1))).bind λc=>(Option.map Sum.inr (some (c)))) else (bif (decide ((0:Int)<(fV b (ix l a)))) then ((jk 10 (i64.wrap (a+1))).bind λd=>(Option.map Sum.inr (some (d)))) else (some (Sum.inl ((i64.wrap (a+1)),(iy b (ix l a) 1)))))) else none) else (Option.map Sum.inr (some ((cD.mk 0 0)))))
def rJ (l:List Int):Option (cD):=(bif (decide ((5000:Int)<(l.length:Int))) then ((jk 2 0).bind λa=>(some (a))) else (dF (qp l) (0,[])))
def oU (g:cY):Option (cD):=((rJ g.Line).bind λa=>(bif (a.Code != 0) then (some (a)) else (bif ((decide (g.Count<0))||(decide ((1000000000:Int)<g.Count))) then ((jk 3 0).bind λc=>(some (c))) else (bif ((g.Count==0)&&(decide ((0:Int)<(g.Line.length:Int)))) then ((jk 5 0).bind λb=>(some (b))) else (some ((cD.mk 0 0)))))))
def nD (g:cY) (n:Int):Option (Int×Bool×cD×List Int×List Int):=((oU g).bind λb=>(bif (b.Code != 0) then (some (0,false,b,[],[])) else (bif ((decide (n<(-1000000000)))||(decide ((1000000000:Int)<n))) then ((jk 3 (-1)).bind λc=>(some (0,false,c,[],[]))) else ((ff g.Line).bind λa=>(bif (decide ((i64.wrap (g.Count+n))<0)) then (some (g.Count,true,(cD.mk 0 0),a,[])) else (bif (decide ((1000000000:Int)<(i64.wrap (g.Count+n)))) then ((jk 9 0).bind λd=>(some (0,false,d,[],[]))) else (bif ((i64.wrap (g.Count+n))==0) then (some (0,false,(cD.mk 0 0),[],a)) else (some ((i64.wrap (g.Count+n)),false,(cD.mk 0 0),a,[])))))))))
def qq (l:List Int) (a:Int):Option (cD):=(bif (decide (a<1)) then ((jk 3 (-1)).bind λc=>(some (c))) else ((ie l a).bind λd=>(bif d then ((jk 10 (-1)).bind λb=>(some (b))) else (bif ((l.length:Int)==5000) then ((jk 9 0).bind λe=>(some (e))) else (some ((cD.mk 0 0)))))))
def mj (g:cY) (a:List Int):Option (Int×Bool×cD×List Int):=(some (g.Count,(g.Count==0),(cD.mk 0 0),a))
def nP (g:cY) (b:Int) (c:cD):Option (Int×Bool×cD×List Int):=(bif (c.Code != 0) then (some (0,false,c,[])) else ((ff g.Line).bind λa=>(bif (decide ((0:Int)<g.Count)) then (bif (decide ((a++([b]:List Int)).length*8<=140737488355328)) then (mj g (a++([b]:List Int))) else none) else (mj g a))))
def nE (g:cY) (a:Int):Option (Int×Bool×cD×List Int):=((oU g).bind λb=>(bif (b.Code==0) then ((qq g.Line a).bind λc=>(nP g a c)) else (nP g a b)))
def fq (a:Int) (g:List cz) (c:List Int) (e:List cq) (f:List bV) (b:List di) (d:List cY):Option (Bool×Int×List cz×List Int×List cq×List bV×List di×List cY):=(some (true,a,g,c,e,f,b,d))
def hX (n:Int) (p:dg) (a:List dg) (e:Int) (o:List cY):Int×Int×List cq×List bV×List di×List Int×List cz×(List Int)->Option (((Int×Int×List cq×List bV×List di×List Int×List cz×List Int) ⊕ (Bool×Int×List cz×List Int×List cq×List bV×List di×List cY))):=λ(h,b,c,i,j,d,k,l)=>(bif (decide (0<=n/\n<(i.length:Int))) then (bif (decide (b<h)) then (bif ((decide ((0:Int)<=b))&&(decide (b<(d.length:Int)))) then ((dL (ix d b) c).bind λf=>(bif (decide (0<=f/\f<(c.length:Int))) then (bif ((decide ((0:Int)<=(ix c f).pc))&&(decide ((ix c f).pc<(a.length:Int)))) then ((dq (ix d b) 17 p.A (ix a (ix c f).pc).B k).bind λm=>((fW n (ix d b) c i l).bind λg=>(bif (decide (0<=n/\n<(g.2.2.length:Int))) then (some (Sum.inl (h,(i64.wrap (b+1)),g.2.1,g.2.2,j,d,m,g.1))) else none))) else none) else none)) else none) else (Option.map Sum.inr (fq e k l c i j o))) else none)
def hZ (l:Int) (n:dg) (b:Int) (m:List di):Int×Int×List cq×List bV×List cY×List Int×List cz×(List Int)->Option (((Int×Int×List cq×List bV×List cY×List Int×List cz×List Int) ⊕ (Bool×Int×List cz×List Int×List cq×List bV×List di×List cY))):=λ(e,a,j,f,h,c,g,i)=>(bif (decide (0<=l/\l<(f.length:Int))) then (bif (decide (a<e)) then (bif ((decide ((0:Int)<=a))&&(decide (a<(c.length:Int)))) then ((dq (ix c a) 20 n.A 0 g).bind λk=>((fW l (ix c a) j f i).bind λd=>(bif (decide (0<=l/\l<(d.2.2.length:Int))) then (some (Sum.inl (e,(i64.wrap (a+1)),d.2.1,d.2.2,h,c,k,d.1))) else none))) else none) else (Option.map Sum.inr (fq b g i j f m h))) else none)
def eX (y t:Int) (b:dg) (h:List dg) (a:Int) (o:List cz) (k:List cq) (n:List bV) (p:List Int) (f:List di) (d:List cY):Option (Bool×Int×List cz×List Int×List cq×List bV×List di×List cY):=(bif (decide (0<=y/\y<(n.length:Int))) then ((dL t k).bind λj=>(bif (decide (0<=j/\j<(k.length:Int))) then (bif (b.Op==17) then (bif ((decide ((0:Int)<=b.A))&&(decide (b.A<(f.length:Int)))) then ((mD (ix f b.A) t (b.B==1) false).bind λe=>(bif ((decide ((0:Int)<=b.A))&&(decide (b.A<(f.length:Int)))) then ((λz1:List di=>(bif (!e.2.2.1) then ((fZ t k).bind λl=>(some (l.1,a,o,p,l.2,n,z1,d))) else ((dq t b.Op b.A b.B o).bind λs=>(fq a s p k n z1 d)))) (f.set b.A.toNat ((di.mk e.1 e.2.1 e.2.2.2.2):di))) else none)) else none) else (bif (b.Op==18) then (bif ((decide ((0:Int)<=b.A))&&(decide (b.A<(f.length:Int)))) then ((nC (ix f b.A) (b.B==1)).bind λc=>(bif ((decide ((0:Int)<=b.A))&&(decide (b.A<(f.length:Int)))) then ((λz0:List di=>(bif c.2.2.1 then ((dH t b.A o).bind λx=>(some (false,2,x,p,k,n,z0,d))) else ((dq t b.Op b.A b.B o).bind λq=>(dF (hX y b h a d) ((c.2.2.2.2.2.length:Int),0,k,n,z0,c.2.2.2.2.2,q,p))))) (f.set b.A.toNat ((di.mk c.1 c.2.1 c.2.2.2.2.1):di))) else none)) else none) else (bif (b.Op==19) then (bif ((decide ((0:Int)<=b.A))&&(decide (b.A<(d.length:Int)))) then (bif ((decide ((0:Int)<=b.B))&&(decide (b.B<((8:Nat):Int)))) then ((nD (ix d b.A) ((ix k j).r.get b.B)).bind λg=>(bif (g.2.1||(g.2.2.1.Code != 0)) then ((dH t b.A o).bind λu=>(some (false,2,u,p,k,n,f,d))) else (bif ((decide ((0:Int)<=b.A))&&(decide (b.A<(d.length:Int)))) then ((dq t b.Op b.A ((ix k j).r.get b.B) o).bind λv=>(dF (hZ y b a f) ((g.2.2.2.2.length:Int),0,k,n,(d.set b.A.toNat ((cY.mk g.1 g.2.2.2.1):cY)),g.2.2.2.2,v,p))) else none))) else none) else none) else (bif (b.Op==20) then (bif ((decide ((0:Int)<=b.A))&&(decide (b.A<(d.length:Int)))) then ((nE (ix d b.A) t).bind λi=>(bif ((decide ((0:Int)<=b.A))&&(decide (b.A<(d.length:Int)))) then (bif (!i.2.1) then ((fZ t k).bind λm=>(some (m.1,a,o,p,m.2,n,f,(d.set b.A.toNat ((cY.mk i.1 i.2.2.2):cY))))) else ((dq t b.Op b.A 0 o).bind λw=>(fq a w p k n f (d.set b.A.toNat ((cY.mk i.1 i.2.2.2):cY))))) else none)) else none) else (fq a o p k n f d))))) else none)) else none)
def eT (a b:Int) (j:List cR) (i:List di) (h:List cY) (d:List cz) (e:List cq) (c g:List Int) (f:List bV):Option (Bool×Int×Int×List cz×List cq×List Int×List Int×List bV×List cR×List di×List cY):=(some (true,a,b,d,e,c,g,f,j,i,h))
def jv (b:Int) (j:List Int) (g:List bV) (h:List Int) (i:List cR) (f:List di) (e:List cY) (a:Int) (c:List cz) (d:List cq):Option (Bool×Int×Int×List cz×List cq×List Int×List Int×List bV×List cR×List di×List cY):=(some (false,a,b,c,d,h,j,g,i,f,e))
def eu (m t:Int) (i:dg) (g:List dg) (d c e:Int) (q:List cz) (v:List Int) (b:List cq) (p:List bV) (s:List Int) (u:List cR) (k:List di) (j:List cY) (a:Int) (l:Bool):Option (Bool×Int×Int×List cz×List cq×List Int×List Int×List bV×List cR×List di×List cY):=(bif (decide (0<=m/\m<(p.length:Int))) then (bif (decide (0<=a/\a<(b.length:Int))) then (bif l then ((eX m t i g d q b p s k j).bind λf=>(bif (decide (0<=m/\m<(f.2.2.2.2.2.1.length:Int))) then (bif (decide (0<=a/\a<(f.2.2.2.2.1.length:Int))) then (some (f.1,f.2.1,e,f.2.2.1,f.2.2.2.2.1,f.2.2.2.1,v,f.2.2.2.2.2.1,u,f.2.2.2.2.2.2.1,f.2.2.2.2.2.2.2)) else none) else none)) else (bif (i.Op==21) then (bif ((decide ((0:Int)<=i.A))&&(decide (i.A<((8:Nat):Int)))) then (bif (decide ((1000000000:Int)<((ix b a).r.get i.A))) then ((dH t 0 q).bind λo=>(some (false,2,e,o,b,s,v,p,u,k,j))) else (bif (decide (((ix b a).r.get i.A)<1)) then ((i4 m t b p s).bind λh=>(bif (decide (0<=m/\m<(h.2.2.2.length:Int))) then (bif (decide (0<=a/\a<(h.2.2.1.length:Int))) then (some (h.1,d,e,q,h.2.2.1,h.2.1,v,h.2.2.2,u,k,j)) else none) else none)) else ((λz0:List cq=>((λz1:List cq=>((λz2:List cq=>(some (false,d,(i64.wrap (e+1)),q,(z2.set a.toNat ((cq.mk (ix z2 a).pc (ix z2 a).r (ix z2 a).state (ix z2 a).when (i64.wrap (e+1))):cq)),s,v,p,u,k,j))) (z1.set a.toNat ((cq.mk (ix z1 a).pc (ix z1 a).r (ix z1 a).state (i64.wrap (c+((ix b a).r.get i.A))) (ix z1 a).seq):cq)))) (z0.set a.toNat ((cq.mk (ix z0 a).pc (ix z0 a).r 2 (ix z0 a).when (ix z0 a).seq):cq)))) (b.set a.toNat ((cq.mk (i64.wrap ((ix b a).pc+1)) (ix b a).r (ix b a).state (ix b a).when (ix b a).seq):cq))))) else none) else (bif (i.Op==22) then ((dH t 0 q).bind λn=>(some (false,2,e,n,b,s,v,p,u,k,j))) else (eT d e u k j q b s v p)))) else none) else none)
def fE (k t:Int) (f:dg) (a:List dg) (b c d:Int) (n:List cz) (q:List Int) (l:List cq) (m:List bV) (o:List Int) (p:List cR) (i:List di) (h:List cY) (g:Int) (j:Bool):Option (Bool×Int×Int×List cz×List cq×List Int×List Int×List bV×List cR×List di×List cY):=(bif (decide (0<=k/\k<(m.length:Int))) then (bif (decide (0<=g/\g<(l.length:Int))) then (bif j then ((eE k t f a b n l m o p).bind λe=>(bif (decide (0<=k/\k<(e.2.2.2.2.2.1.length:Int))) then (bif (decide (0<=g/\g<(e.2.2.2.2.1.length:Int))) then (some (e.1,e.2.1,d,e.2.2.1,e.2.2.2.2.1,e.2.2.2.1,q,e.2.2.2.2.2.1,e.2.2.2.2.2.2,i,h)) else none) else none)) else (bif (f.Op==17) then (eu k t f a b c d n q l m o p i h g (f.Op==17)) else (bif (f.Op==18) then (eu k t f a b c d n q l m o p i h g (f.Op==18)) else (bif (f.Op==19) then (eu k t f a b c d n q l m o p i h g (f.Op==19)) else (eu k t f a b c d n q l m o p i h g (f.Op==20)))))) else none) else none)
def dC (n t:Int) (c:dg) (e:List dg) (b f d:Int) (s:List cz) (l:List Int) (g:List cq) (m:List bV) (o:List Int) (q:List cR) (j:List di) (i:List cY):Option (Bool×Int×Int×List cz×List cq×List Int×List Int×List bV×List cR×List di×List cY):=(bif (decide (0<=n/\n<(m.length:Int))) then ((dL t g).bind λa=>(bif (decide (0<=a/\a<(g.length:Int))) then (bif (c.Op==8) then (bif ((decide ((0:Int)<=c.A))&&(decide (c.A<((8:Nat):Int)))) then ((dq t c.Op 0 ((ix g a).r.get c.A) s).bind λu=>(eT b d q j i u g o l m)) else none) else (bif (c.Op==9) then ((dq t c.Op 0 0 s).bind λp=>((λz1:List cq=>(bif (t==1) then (jv d l m o q j i 1 p z1) else (jv d l m o q j i b p z1))) (g.set a.toNat ((cq.mk (ix g a).pc (ix g a).r 3 (ix g a).when (ix g a).seq):cq)))) else (bif (c.Op==10) then ((i4 n t g m o).bind λh=>(bif (decide (0<=n/\n<(h.2.2.2.length:Int))) then (bif (decide (0<=a/\a<(h.2.2.1.length:Int))) then (some (h.1,b,d,s,h.2.2.1,h.2.1,l,h.2.2.2,q,j,i)) else none) else none)) else (bif (c.Op==11) then (bif ((g.length:Int)==64) then (some (false,4,d,s,g,o,l,m,q,j,i)) else (bif ((decide ((0:Int)<=c.B))&&(decide (c.B<((8:Nat):Int)))) then (bif (decide ((g++[((cq.mk c.A ((default:(dn 8)).set (0:Int) ((ix g a).r.get c.B)) 0 0 0):cq)]).length*8<=140737488355328)) then ((dq t c.Op 0 (((g++[((cq.mk c.A ((default:(dn 8)).set (0:Int) ((ix g a).r.get c.B)) 0 0 0):cq)]).length:Nat):Int) s).bind λx=>((i6 n (((g++[((cq.mk c.A ((default:(dn 8)).set (0:Int) ((ix g a).r.get c.B)) 0 0 0):cq)]).length:Nat):Int) (g++[((cq.mk c.A ((default:(dn 8)).set (0:Int) ((ix g a).r.get c.B)) 0 0 0):cq)]) m o).bind λk=>(bif (decide (0<=n/\n<(k.2.2.length:Int))) then (eT b d q j i x k.2.1 k.1 l k.2.2) else none))) else none) else none)) else (bif (c.Op==12) then (bif ((decide ((0:Int)<=c.B))&&(decide (c.B<(l.length:Int)))) then (bif ((decide ((0:Int)<=c.A))&&(decide (c.A<((8:Nat):Int)))) then ((λz0:List cq=>((dq t c.Op c.B ((ix z0 a).r.get c.A) s).bind λw=>(eT b d q j i w z0 o l m))) (g.set a.toNat ((cq.mk (ix g a).pc ((ix g a).r.set c.A (ix l c.B)) (ix g a).state (ix g a).when (ix g a).seq):cq))) else none) else none) else (bif (c.Op==13) then (bif ((decide ((0:Int)<=c.B))&&(decide (c.B<((8:Nat):Int)))) then (bif ((decide ((0:Int)<=c.A))&&(decide (c.A<(l.length:Int)))) then ((dq t c.Op c.A ((ix g a).r.get c.B) s).bind λv=>(eT b d q j i v g o (l.set c.A.toNat ((ix g a).r.get c.B)) m)) else none) else none) else (bif (c.Op==14) then (fE n t c e b f d s l g m o q j i a (c.Op==14)) else (bif (c.Op==15) then (fE n t c e b f d s l g m o q j i a (c.Op==15)) else (fE n t c e b f d s l g m o q j i a (c.Op==16)))))))))) else none)) else none)
def ep (p:Int) (e:List dg) (o:List cz) (b f g:Int) (s:List Int) (l:List cq) (q:List cR) (n:List di) (m:List cY) (h:List bV) (j:List Int) (c:Int) (i:dg):Option (Int×Int×List cz×List cq×List Int×List Int×List bV×List cR×List di×List cY):=(bif (decide (0<=p/\p<(h.length:Int))) then (bif (decide (0<=c/\c<(l.length:Int))) then ((oQ i.Op).bind λk=>(bif k then ((mh i (ix l c).pc c l).bind λd=>(bif (decide (d.2.length=l.length)) then (bif (decide (0<=c/\c<(d.2.length:Int))) then (some (b,g,o,(d.2.set c.toNat ((cq.mk d.1 (ix d.2 c).r (ix d.2 c).state (ix d.2 c).when (ix d.2 c).seq):cq)),j,s,h,q,n,m)) else none) else none)) else ((dC p (ix h p).now i e b f g o s l h j q n m).bind λa=>(bif (decide (0<=p/\p<(a.2.2.2.2.2.2.2.1.length:Int))) then (bif (decide (0<=c/\c<(a.2.2.2.2.1.length:Int))) then (bif a.1 then (some (a.2.1,a.2.2.1,a.2.2.2.1,(a.2.2.2.2.1.set c.toNat ((cq.mk (i64.wrap ((ix a.2.2.2.2.1 c).pc+1)) (ix a.2.2.2.2.1 c).r (ix a.2.2.2.2.1 c).state (ix a.2.2.2.2.1 c).when (ix a.2.2.2.2.1 c).seq):cq)),a.2.2.2.2.2.1,a.2.2.2.2.2.2.1,a.2.2.2.2.2.2.2.1,a.2.2.2.2.2.2.2.2.1,a.2.2.2.2.2.2.2.2.2.1,a.2.2.2.2.2.2.2.2.2.2)) else (bif (((ix a.2.2.2.2.2.2.2.1 p).now==(ix h p).now)&&((ix a.2.2.2.2.1 c).state != 0)) then (some (a.2.1,a.2.2.1,a.2.2.2.1,a.2.2.2.2.1,a.2.2.2.2.2.1,a.2.2.2.2.2.2.1,(a.2.2.2.2.2.2.2.1.set p.toNat ((bV.mk 0 (ix a.2.2.2.2.2.2.2.1 p).Ring_Next (ix a.2.2.2.2.2.2.2.1 p).Ring_List):bV)),a.2.2.2.2.2.2.2.2.1,a.2.2.2.2.2.2.2.2.2.1,a.2.2.2.2.2.2.2.2.2.2)) else (some (a.2.1,a.2.2.1,a.2.2.2.1,a.2.2.2.2.1,a.2.2.2.2.2.1,a.2.2.2.2.2.2.1,a.2.2.2.2.2.2.2.1,a.2.2.2.2.2.2.2.2.1,a.2.2.2.2.2.2.2.2.2.1,a.2.2.2.2.2.2.2.2.2.2)))) else none) else none)))) else none) else none)
def gc (p:Int) (a:List dg) (l:List cz) (b d e:Int) (n:List Int) (h:List cq) (m:List cR) (k:List di) (j:List cY) (i:Bool) (f:List bV) (g:List Int):Option (Int×Int×List cz×List cq×List Int×List Int×List bV×List cR×List di×List cY):=(bif (decide (0<=p/\p<(f.length:Int))) then (bif i then (some (b,e,l,h,g,n,f,m,k,j)) else ((dL (ix f p).now h).bind λc=>(bif (decide (0<=c/\c<(h.length:Int))) then (bif (decide ((ix h c).pc<(a.length:Int))) then (bif ((decide ((0:Int)<=(ix h c).pc))&&(decide ((ix h c).pc<(a.length:Int)))) then (ep p a l b d e n h m k j f g c (ix a (ix h c).pc)) else none) else (ep p a l b d e n h m k j f g c (dg.mk 9 0 0))) else none))) else none)
def gu (p:Int) (b:List dg) (g:Int) (h:List Int) (i f:Int) (n:List cz) (a j c:Int) (t:List Int) (d:Int) (s:List Int) (o:List cq) (m:List bV) (q:List Int) (r:List cR) (l:List di) (k:List cY):Option (Int×Int×List cz×List cq×List Int×List Int×List bV×List cR×List di×List cY):=(bif ((decide ((0:Int)<=p))&&(decide (p<(m.length:Int)))) then (bif ((ix m p).now==0) then ((gq p m q).bind λe=>(bif (decide (0<=p/\p<(e.2.2.length:Int))) then (gc p b n a c d s o r l k (!e.1) e.2.2 e.2.1) else none)) else (gc p b n a c d s o r l k false m q)) else none)
def iQ (a:Int) (b:List cq):Option (Bool):=(bif (decide (0<=a/\a<(b.length:Int))) then (some ((((ix b a).state==0)||((ix b a).state==2)))) else none)
def gf (c:List cq):Int->Option (((Int) ⊕ (Int))):=λa=>(bif (decide (a<(c.length:Int))) then (bif ((decide ((0:Int)<=a))&&(decide (a<(c.length:Int)))) then ((iQ a c).bind λb=>(bif b then (Option.map Sum.inr (some (a))) else (some (Sum.inl ((i64.wrap (a+1))))))) else none) else (Option.map Sum.inr (some ((-1)))))
def ka (a:List cq):Option (Int):=(dF (gf a) (0))
def jl (b:List cq):Option (Bool):=((ka b).bind λa=>(some ((decide ((0:Int)<=a)))))
def jx (b:List cq):Option (Bool):=((jl b).bind λa=>(some ((!a))))
def nQ (b c d:Int) (h:List cz) (g:List Int) (e:List cq):Int×(List Int)->Option (((Int×List Int) ⊕ (Int×Int×Int×cD×List cz×List Int×List Int))):=λ(a,f)=>(bif (decide (a<(e.length:Int))) then (bif ((decide ((0:Int)<=a))&&(decide (a<(e.length:Int)))) then (bif (decide ((f++([(ix e a).state]:List Int)).length*8<=140737488355328)) then (some (Sum.inl ((i64.wrap (a+1)),(f++([(ix e a).state]:List Int))))) else none) else none) else (Option.map Sum.inr (some (b,c,d,(cD.mk 0 0),h,f,g))))
def ml (a b c:Int) (g:List cz) (d e:List Int) (f:List cq):Option (Int×Int×Int×cD×List cz×List Int×List Int):=(dF (nQ a b c g e f) (0,d))
def mn (n b:Int) (l:List Int) (a c d:Int) (m:List cz) (h:List Int) (j:List cq) (i:List bV) (g:List Int) (k:List cR) (f:List di) (e:List cY):Option (((Int×Int×Int×Int×Int×List cz×List Int×List Int×List cq×List bV×List Int×List cR×List di×List cY) ⊕ (Int×Int×Int×cD×List cz×List Int×List Int))):=(some (Sum.inl ((i64.wrap (n+1)),a,(i64.wrap (b+1)),c,d,m,l,h,j,i,g,k,f,e)))
def mo (m a:Int) (k:List Int) (c b d:Int) (i:List cz) (l:List Int) (j:List cq) (h:List bV) (n:List Int) (g:List cR) (e:List di) (f:List cY) (o:Bool):Option (((Int×Int×Int×Int×Int×List cz×List Int×List Int×List cq×List bV×List Int×List cR×List di×List cY) ⊕ (Int×Int×Int×cD×List cz×List Int×List Int))):=(bif o then (mn m a k 3 b d i l j h n g e f) else (mn m a k c b d i l j h n g e f))
def mq (m b:Int) (k:List Int) (a c d:Int) (j:List cz) (l:List Int) (e:List cq) (i:List bV) (n:List Int) (h:List cR) (f:List di) (g:List cY):Option (((Int×Int×Int×Int×Int×List cz×List Int×List Int×List cq×List bV×List Int×List cR×List di×List cY) ⊕ (Int×Int×Int×cD×List cz×List Int×List Int))):=(bif (a==0) then ((jx e).bind λo=>(mo m b k a c d j l e i n h f g o)) else (mo m b k a c d j l e i n h f g false))
def iI (p:cy) (g:List Int):Int×Int×Int×Int×Int×List cz×List Int×List Int×List cq×List bV×List Int×List cR×List di×(List cY)->Option (((Int×Int×Int×Int×Int×List cz×List Int×List Int×List cq×List bV×List Int×List cR×List di×List cY) ⊕ (Int×Int×Int×cD×List cz×List Int×List Int))):=λ(e,a,b,c,f,j,h,k,i,q,o,r,n,m)=>(bif (decide (e<(g.length:Int))) then (bif ((decide ((0:Int)<=e))&&(decide (e<(g.length:Int)))) then (bif (a != 0) then (Option.map Sum.inr (ml a b c j h k i)) else (bif (decide ((ix g e)<0)) then ((jT c i o).bind λl=>(mq e b h a l.1 f j k l.2.2 q l.2.1 r n m)) else ((gu (ix g e) p.Code p.Cells p.Pipes p.Locks p.Groups j a (i64.wrap (b+1)) c h f k i q o r n m).bind λd=>(mq e b h d.1 c d.2.1 d.2.2.1 d.2.2.2.2.2.1 d.2.2.2.1 d.2.2.2.2.2.2.1 d.2.2.2.2.1 d.2.2.2.2.2.2.2.1 d.2.2.2.2.2.2.2.2.1 d.2.2.2.2.2.2.2.2.2)))) else none) else (Option.map Sum.inr (ml a b c j h k i)))
def nR (p:cy) (d:Int) (c:List Int):Int->Option (((Int) ⊕ (Int×Int×Int×cD×List cz×List Int×List Int))):=λb=>(bif (decide (b<(c.length:Int))) then (bif ((decide ((0:Int)<=b))&&(decide (b<(c.length:Int)))) then (bif ((decide ((ix c b)<(-1)))||(decide (d<=(ix c b)))) then ((pj 3 b).bind λe=>(Option.map Sum.inr (some (0,0,0,e,[],[],[])))) else (some (Sum.inl ((i64.wrap (b+1)))))) else none) else (Option.map Sum.inr ((lS p d).bind λa=>(dF (iI p c) (0,0,0,0,0,[],[],a.1,a.2.1,a.2.2.1,a.2.2.2.1,a.2.2.2.2.1,a.2.2.2.2.2.1,a.2.2.2.2.2.2)))))
def mF (p:cy) (a:Int) (b:List Int):Option (Int×Int×Int×cD×List cz×List Int×List Int):=((qk p).bind λc=>(bif (c.Code != 0) then (some (0,0,0,c,[],[],[])) else (bif ((decide (a<1))||(decide ((16:Int)<a))) then ((pj 3 (-1)).bind λd=>(some (0,0,0,d,[],[],[]))) else (bif (decide ((5000:Int)<(b.length:Int))) then ((pj 2 (-1)).bind λe=>(some (0,0,0,e,[],[],[]))) else (dF (nR p a b) (0))))))
def kD:Option (Bool):=((mF (cy.mk ([(dg.mk 15 0 0)]:List dg) 0 ([0]:List Int) 0 0) 1 ([0,0]:List Int)).bind λa=>(some (((a.2.2.2.1.Code==0)&&((a.1==3)&&((a.2.1==1)&&((a.2.2.2.2.1.length:Int)==0)))))))
def kb (p:cy):Option (Bool):=(some (((decide ((2000:Int)<(p.Code.length:Int)))||(decide ((2000:Int)<(p.Pipes.length:Int))))))
def gH (a b:Int):Option (cD):=(some ((cD.mk a b)))
def fg (x a:Int):Option (Bool):=(some (((decide ((0:Int)<=x))&&(decide (x<a)))))
def f9 (p:cy) (k x:Int):Option (Bool):=(bif (k==110) then (some (true)) else (bif (k==114) then (fg x 8) else (bif (k==99) then (fg x (p.Code.length:Int)) else (bif (k==109) then (fg x p.Cells) else (bif (k==112) then (fg x (p.Pipes.length:Int)) else (bif (k==108) then (fg x p.Locks) else (bif (k==103) then (fg x p.Groups) else (bif (k==107) then (fg x 2) else (fg x 1)))))))))
def fA (c:Int) (a:Bool):Option (((Int) ⊕ (cD))):=(bif a then ((gH 5 c).bind λb=>(Option.map Sum.inr (some (b)))) else (some (Sum.inl ((i64.wrap (c+1))))))
def dX (p:cy):Int->Option (((Int) ⊕ (cD))):=λa=>(bif (decide (a<(p.Code.length:Int))) then (bif ((decide ((0:Int)<=a))&&(decide (a<(p.Code.length:Int)))) then (bif ((decide ((ix p.Code a).Op<1))||(decide ((22:Int)<(ix p.Code a).Op))) then ((gH 4 a).bind λd=>(Option.map Sum.inr (some (d)))) else (bif ((decide ((0:Int)<=(ix p.Code a).Op))&&(decide ((ix p.Code a).Op<(fY.length:Int)))) then (bif (decide ((0:Int)<((((ix fY (ix p.Code a).Op)).size:Nat):Int))) then ((f9 p ((((ix fY (ix p.Code a).Op)).data.getD ((0:Int)).toNat 0).toNat:Int) (ix p.Code a).A).bind λc=>(bif (!c) then (fA a true) else (bif ((decide ((0:Int)<=(ix p.Code a).Op))&&(decide ((ix p.Code a).Op<(fY.length:Int)))) then (bif (decide ((1:Int)<((((ix fY (ix p.Code a).Op)).size:Nat):Int))) then ((f9 p ((((ix fY (ix p.Code a).Op)).data.getD ((1:Int)).toNat 0).toNat:Int) (ix p.Code a).B).bind λb=>(fA a (!b))) else none) else none))) else none) else none)) else none) else (Option.map Sum.inr (some ((cD.mk 0 0)))))
def f7 (p:cy):Int->Option (((Int) ⊕ (cD))):=λa=>(bif (decide (a<(p.Pipes.length:Int))) then (bif ((decide ((0:Int)<=a))&&(decide (a<(p.Pipes.length:Int)))) then (bif ((!(!(decide ((ix p.Pipes a)<0))))||((decide ((0:Int)<=a))&&(decide (a<(p.Pipes.length:Int))))) then (bif ((decide ((ix p.Pipes a)<0))||(decide ((100:Int)<(ix p.Pipes a)))) then ((gH 8 a).bind λb=>(Option.map Sum.inr (some (b)))) else (some (Sum.inl ((i64.wrap (a+1)))))) else none) else none) else (Option.map Sum.inr (dF (dX p) (0))))
def iG (p:cy):Option (cD):=(bif ((decide ((1000:Int)<(p.Code.length:Int)))||(decide ((20:Int)<(p.Pipes.length:Int)))) then ((gH 2 0).bind λb=>(some (b))) else (bif ((decide (p.Cells<0))||((decide ((20:Int)<p.Cells))||((decide (p.Locks<0))||((decide ((20:Int)<p.Locks))||((decide (p.Groups<0))||(decide ((20:Int)<p.Groups))))))) then ((gH 3 0).bind λa=>(some (a))) else (dF (f7 p) (0))))
def jW (b:Int) (a:cD):Option (((Int×cD) ⊕ (cD))):=(some (Sum.inl ((i64.wrap (b+1)),a)))
def jX (e:Int) (a:List Int):Int×cD->Option (((Int×cD) ⊕ (cD))):=λ(c,b)=>(bif ((decide (c<(a.length:Int)))&&(b.Code==0)) then (bif ((decide ((0:Int)<=c))&&(decide (c<(a.length:Int)))) then (bif ((!(!(decide ((ix a c)<(-1)))))||((decide ((0:Int)<=c))&&(decide (c<(a.length:Int))))) then (bif ((decide ((ix a c)<(-1)))||(decide (e<=(ix a c)))) then ((gH 3 c).bind λd=>(jW c d)) else (jW c b)) else none) else none) else (Option.map Sum.inr (some (b))))
def gL (b:Int) (a:List Int) (c:cD):Option (cD):=(dF (jX b a) (0,c))
def fU (b:Int) (a:List Int) (c:cD):Option (cD):=(bif ((c.Code==0)&&(decide ((5000:Int)<(a.length:Int)))) then ((gH 2 (-1)).bind λd=>(gL b a d)) else (gL b a c))
def jy (p:cy) (a:Int) (b:List Int):Option (cD):=((iG p).bind λc=>(bif ((c.Code==0)&&((decide (a<1))||(decide ((16:Int)<a)))) then ((gH 3 (-1)).bind λd=>(fU a b d)) else (fU a b c)))
def jz (p:cy) (d:Int) (b:List Int) (c:Bool):Option (Int×Int×Int×Bool×List cz×List Int×List Int):=(bif c then (some (0,0,0,false,[],[],[])) else ((mF p d b).bind λa=>(some (a.1,a.2.1,a.2.2.1,(a.2.2.2.1.Code==0),a.2.2.2.2.1,a.2.2.2.2.2.1,a.2.2.2.2.2.2))))
def i0 (p:cy) (b:Int) (a:List Int):Option (Int×Int×Int×Bool×List cz×List Int×List Int):=((kb p).bind λd=>(bif d then (jz p b a true) else (bif (decide ((5000:Int)<(a.length:Int))) then (jz p b a true) else ((jy p b a).bind λc=>(jz p b a (c.Code != 0))))))
def fu (c:jS) (b a:Int):Option (((Int) ⊕ (Bool))):=(bif (decide (a<=(ix c.Trace b).Obj)) then (Option.map Sum.inr (some (false))) else (some (Sum.inl ((i64.wrap (b+1))))))
def jb (p:cy) (c:jS) (b:Int) (a:Bool):Option (((Int) ⊕ (Bool))):=(bif a then (fu c b p.Groups) else (bif ((ix c.Trace b).Op==22) then (fu c b 21) else (fu c b 1)))
def jc (p:cy) (c:jS) (b:Int) (a:Bool):Option (((Int) ⊕ (Bool))):=(bif a then (fu c b p.Locks) else (bif ((ix c.Trace b).Op==19) then (jb p c b ((ix c.Trace b).Op==19)) else (jb p c b ((ix c.Trace b).Op==20))))
def h_ (p:cy) (c:jS) (b:Int) (a:Bool):Option (((Int) ⊕ (Bool))):=(bif a then (fu c b (p.Pipes.length:Int)) else (bif ((ix c.Trace b).Op==17) then (jc p c b ((ix c.Trace b).Op==17)) else (jc p c b ((ix c.Trace b).Op==18))))
def jd (p:cy) (c:jS) (b:Int) (a:Bool):Option (((Int) ⊕ (Bool))):=(bif a then (fu c b p.Cells) else (bif ((ix c.Trace b).Op==14) then (h_ p c b ((ix c.Trace b).Op==14)) else (bif ((ix c.Trace b).Op==15) then (h_ p c b ((ix c.Trace b).Op==15)) else (h_ p c b ((ix c.Trace b).Op==16)))))
def ia (p:cy) (b:jS):Int->Option (((Int) ⊕ (Bool))):=λa=>(bif (decide (a<(b.Trace.length:Int))) then (bif ((decide ((0:Int)<=a))&&(decide (a<(b.Trace.length:Int)))) then (bif ((decide ((ix b.Trace a).Op<8))||((decide ((22:Int)<(ix b.Trace a).Op))||((decide ((ix b.Trace a).Task<1))||((decide ((64:Int)<(ix b.Trace a).Task))||((decide ((ix b.Trace a).Obj<0))||(decide ((20:Int)<(ix b.Trace a).Obj))))))) then (Option.map Sum.inr (some (false))) else (bif ((ix b.Trace a).Op==12) then (jd p b a ((ix b.Trace a).Op==12)) else (jd p b a ((ix b.Trace a).Op==13)))) else none) else (Option.map Sum.inr (some (true))))
def ki (p:cy) (a:jS):Option (Bool):=(dF (ia p a) (0))
def eV (c:Int) (a:Bool) (b:List Int):Option (((Bool×Int×List Int) ⊕ (((Int×Int×Int×Int×List cz×List Int×List Int) ⊕ (Bool))))):=(some (Sum.inl (a,(i64.wrap (c+1)),b)))
def ii (k f e g:Int) (c:List cz) (j i:List Int) (h:Int):Bool×Int×(List Int)->Option (((Bool×Int×List Int) ⊕ (((Int×Int×Int×Int×List cz×List Int×List Int) ⊕ (Bool))))):=λ(a,d,b)=>(bif (decide (d<(c.length:Int))) then (bif ((decide ((0:Int)<=d))&&(decide (d<(c.length:Int)))) then (bif ((ix c d).Obj != k) then (eV d a b) else (bif ((ix c d).Op==14) then (bif (decide ((b++([(ix c d).Value]:List Int)).length*8<=140737488355328)) then (bif (a||(decide (h<(((b++([(ix c d).Value]:List Int)).length:Nat):Int)))) then (Option.map Sum.inr (Option.map Sum.inr (some (false)))) else (eV d a (b++([(ix c d).Value]:List Int)))) else none) else (bif ((ix c d).Op==15) then (bif ((b.length:Int)==0) then (bif ((!a)||((ix c d).Value != 0)) then (Option.map Sum.inr (Option.map Sum.inr (some (false)))) else (eV d a b)) else (bif (decide ((0:Int)<(b.length:Int))) then (bif ((ix b (0:Int)) != (ix c d).Value) then (Option.map Sum.inr (Option.map Sum.inr (some (false)))) else (bif (decide ((1:Int)<=(b.length:Int))) then (eV d a (cut b (1:Int) (b.length:Int))) else none)) else none)) else (bif ((ix c d).Op==16) then (bif a then (Option.map Sum.inr (Option.map Sum.inr (some (false)))) else (eV d true b)) else (eV d a b))))) else none) else (Option.map Sum.inr (some (Sum.inl ((i64.wrap (k+1)),f,e,g,c,j,i)))))
def gB (h a b c:Int) (g:List cz) (f e:List Int) (d:Int):Option (((Int×Int×Int×Int×List cz×List Int×List Int) ⊕ (Bool))):=(dF (ii h a b c g f e d) (false,0,[]))
def ij (p:cy):Int×Int×Int×Int×List cz×List Int×(List Int)->Option (((Int×Int×Int×Int×List cz×List Int×List Int) ⊕ (Bool))):=λ(g,b,a,c,f,e,d)=>(bif (decide (g<(p.Pipes.length:Int))) then (bif ((decide ((0:Int)<=g))&&(decide (g<(p.Pipes.length:Int)))) then (bif (decide ((ix p.Pipes g)<1)) then (gB g b a c f e d 1) else (gB g b a c f e d (ix p.Pipes g))) else none) else (Option.map Sum.inr (some (true))))
def kE (p:cy) (c:Int) (b:List Int):Option (Bool):=(kD.bind λe=>(bif (!e) then (some (false)) else ((i0 p c b).bind λa=>(bif (!a.2.2.2.1) then (some (true)) else ((ki p (jS.mk a.2.2.2.2.1 a.1 a.2.1 a.2.2.1 a.2.2.2.2.2.1 a.2.2.2.2.2.2)).bind λd=>(bif (!d) then (some (false)) else (dF (ij p) (0,a.1,a.2.1,a.2.2.1,a.2.2.2.2.1,a.2.2.2.2.2.1,a.2.2.2.2.2.2))))))))
end
end Go.Proofs.YthcdpjkgdcpkmaaGreatDoor
