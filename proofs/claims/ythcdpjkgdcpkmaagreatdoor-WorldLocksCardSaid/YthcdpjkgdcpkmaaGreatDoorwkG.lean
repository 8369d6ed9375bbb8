/-
 What laws of the chapter wk compute, and lemmas on it.
 No conditions.
-/
import Derived.Test.YthcdpjkgdcpkmaaGreatDoorwkA4
open Go.IntKind (i64)
set_option linter.unusedSimpArgs false
set_option linter.unusedVariables false
set_option linter.unusedSectionVars false
namespace Go.Proofs.YthcdpjkgdcpkmaaGreatDoor
noncomputable section
open Go Go.Sx
structure dg where
 Op:Int
 A:Int
 B:Int
 deriving Inhabited,DecidableEq
instance : b_ dg:=⟨3,λd=>[.v (.int .i64 d.Op),.v (.int .i64 d.A),.v (.int .i64 d.B)],λ_=>rfl,λ_=>rfl,λ_=>by simp only [iq,SV.st,kW,db]⟩
@[push_cast] theorem Ns (xs:List dg):iU (fl xs)=true:=m8 (λ_=>rfl) xs
@[push_cast] theorem w9:b_.sz dg=3:=rfl
@[push_cast] theorem Mp (d:dg):b_.cells d=[.v (.int .i64 d.Op),.v (.int .i64 d.A),.v (.int .i64 d.B)]:=rfl
@[push_cast] theorem MT (xs:List dg) (x0:Int) (x1:Int) (x2:Int):fl xs++[.v (.int .i64 x0),.v (.int .i64 x1),.v (.int .i64 x2)]=fl (xs++[dg.mk x0 x1 x2]):=by rw [fG];rfl
@[push_cast] theorem Mq (xs:List dg) (i:Int):(fl xs).getD (i.toNat*3) (.v (.int .i64 0)) = .v (.int .i64 (ix xs i).Op):=by
 have:=fp xs i 0 (by decide) (.v (.int .i64 0):SV) rfl
 rw [w9,eE] at this
 exact this
@[push_cast] theorem MU (xs:List dg) (i:Int):(fl xs).getD (i.toNat*3+1) (.v (.int .i64 0)) = .v (.int .i64 (ix xs i).A):=by
 have:=fp xs i 1 (by decide) (.v (.int .i64 0):SV) rfl
 rw [w9] at this
 exact this
@[push_cast] theorem MW (xs:List dg) (i:Int):(fl xs).getD (i.toNat*3+2) (.v (.int .i64 0)) = .v (.int .i64 (ix xs i).B):=by
 have:=fp xs i 2 (by decide) (.v (.int .i64 0):SV) rfl
 rw [w9] at this
 exact this
structure cy where
 Code:(List dg)
 Cells:Int
 Pipes:(List Int)
 Locks:Int
 Groups:Int
 deriving Inhabited,DecidableEq
instance : b_ cy:=⟨5,λd=>[.sl d.Code.length (fl d.Code),.v (.int .i64 d.Cells),.sl d.Pipes.length (fl d.Pipes),.v (.int .i64 d.Locks),.v (.int .i64 d.Groups)],λ_=>rfl,λ_=>rfl,λ_=>by simp only [iq,SV.st,kW,db]⟩
@[push_cast] theorem ub:b_.sz cy=5:=rfl
@[push_cast] theorem AB (d:cy):b_.cells d=[.sl d.Code.length (fl d.Code),.v (.int .i64 d.Cells),.sl d.Pipes.length (fl d.Pipes),.v (.int .i64 d.Locks),.v (.int .i64 d.Groups)]:=rfl
@[push_cast] theorem Ls (xs:List cy) (x0:(List dg)) (x1:Int) (x2:(List Int)) (x3:Int) (x4:Int):fl xs++[.sl x0.length (fl x0),.v (.int .i64 x1),.sl x2.length (fl x2),.v (.int .i64 x3),.v (.int .i64 x4)]=fl (xs++[cy.mk x0 x1 x2 x3 x4]):=by rw [fG];rfl
@[push_cast] theorem Ig (xs:List cy) (i:Int):(fl xs).getD (i.toNat*5+1) (.v (.int .i64 0)) = .v (.int .i64 (ix xs i).Cells):=by
 have:=fp xs i 1 (by decide) (.v (.int .i64 0):SV) rfl
 rw [ub] at this
 exact this
@[push_cast] theorem Ih (xs:List cy) (i:Int):(fl xs).getD (i.toNat*5+3) (.v (.int .i64 0)) = .v (.int .i64 (ix xs i).Locks):=by
 have:=fp xs i 3 (by decide) (.v (.int .i64 0):SV) rfl
 rw [ub] at this
 exact this
@[push_cast] theorem HX (xs:List cy) (i:Int):(fl xs).getD (i.toNat*5+4) (.v (.int .i64 0)) = .v (.int .i64 (ix xs i).Groups):=by
 have:=fp xs i 4 (by decide) (.v (.int .i64 0):SV) rfl
 rw [ub] at this
 exact this
structure cD where
 Code:Int
 At:Int
 deriving Inhabited,DecidableEq
instance : b_ cD:=⟨2,λd=>[.v (.int .i64 d.Code),.v (.int .i64 d.At)],λ_=>rfl,λ_=>rfl,λ_=>by simp only [iq,SV.st,kW,db]⟩
@[push_cast] theorem NV (xs:List cD):iU (fl xs)=true:=m8 (λ_=>rfl) xs
@[push_cast] theorem Dr:b_.sz cD=2:=rfl
@[push_cast] theorem MX (d:cD):b_.cells d=[.v (.int .i64 d.Code),.v (.int .i64 d.At)]:=rfl
@[push_cast] theorem Nt (xs:List cD) (x0:Int) (x1:Int):fl xs++[.v (.int .i64 x0),.v (.int .i64 x1)]=fl (xs++[cD.mk x0 x1]):=by rw [fG];rfl
@[push_cast] theorem Lt (xs:List cD) (i:Int):(fl xs).getD (i.toNat*2) (.v (.int .i64 0)) = .v (.int .i64 (ix xs i).Code):=by
 have:=fp xs i 0 (by decide) (.v (.int .i64 0):SV) rfl
 rw [Dr,eE] at this
 exact this
@[push_cast] theorem MY (xs:List cD) (i:Int):(fl xs).getD (i.toNat*2+1) (.v (.int .i64 0)) = .v (.int .i64 (ix xs i).At):=by
 have:=fp xs i 1 (by decide) (.v (.int .i64 0):SV) rfl
 rw [Dr] at this
 exact this
structure kind where
 name:ByteArray
 args:ByteArray
 deriving Inhabited,DecidableEq
instance : b_ kind:=⟨2,λd=>[.v (.string d.name),.v (.string d.args)],λ_=>rfl,λ_=>rfl,λ_=>by simp only [iq,SV.st,kW,db]⟩
@[push_cast] theorem On (xs:List kind):iU (fl xs)=true:=m8 (λ_=>rfl) xs
@[push_cast] theorem Oy:b_.sz kind=2:=rfl
@[push_cast] theorem Nu (d:kind):b_.cells d=[.v (.string d.name),.v (.string d.args)]:=rfl
@[push_cast] theorem NW (xs:List kind) (x0:ByteArray) (x1:ByteArray):fl xs++[.v (.string x0),.v (.string x1)]=fl (xs++[kind.mk x0 x1]):=by rw [fG];rfl
structure cr where
 pc:Int
 r:dn 8
 state:Int
 when:Int
 seq:Int
 deriving Inhabited,DecidableEq
instance : b_ cr:=⟨12,λd=>((.v (.int .i64 d.pc)::(b_.cells d.r++(.v (.int .i64 d.state)::(.v (.int .i64 d.when)::(.v (.int .i64 d.seq)::[]))))):List SV),(λ_=>by simp only [KO,gq,List.length_nil]),(λ_=>by simp only [KP,mM,List.all_nil,jp,Value.oneCell',db]),λ_=>by simp only [Fa,iq,SV.st,kW,db]⟩
@[push_cast] theorem Oo (xs:List cr):iU (fl xs)=true:=m8 (λ_=>rfl) xs
@[push_cast] theorem xA:b_.sz cr=12:=rfl
@[push_cast] theorem Nv (d:cr):b_.cells d=((.v (.int .i64 d.pc)::(b_.cells d.r++(.v (.int .i64 d.state)::(.v (.int .i64 d.when)::(.v (.int .i64 d.seq)::[]))))):List SV):=rfl
@[push_cast] theorem NX (xs:List cr) (x0:Int) (x1:dn 8) (x9:Int) (x10:Int) (x11:Int):fl xs++((.v (.int .i64 x0)::(b_.cells x1++(.v (.int .i64 x9)::(.v (.int .i64 x10)::(.v (.int .i64 x11)::[]))))):List SV)=fl (xs++[cr.mk x0 x1 x9 x10 x11]):=by rw [fG];rfl
@[push_cast] theorem Nw (xs:List cr) (i:Int):(fl xs).getD (i.toNat*12) (.v (.int .i64 0)) = .v (.int .i64 (ix xs i).pc):=by
 have:=fp xs i 0 (by decide) (.v (.int .i64 0):SV) rfl
 rw [xA,eE] at this
 exact this
@[push_cast] theorem Lu (xs:List cr) (i:Int):(fl xs).getD (i.toNat*12+9) (.v (.int .i64 0)) = .v (.int .i64 (ix xs i).state):=by
 have:=fp xs i 9 (by decide) (.v (.int .i64 0):SV) rfl
 rw [xA] at this
 exact this
@[push_cast] theorem Mr (xs:List cr) (i:Int):(fl xs).getD (i.toNat*12+10) (.v (.int .i64 0)) = .v (.int .i64 (ix xs i).when):=by
 have:=fp xs i 10 (by decide) (.v (.int .i64 0):SV) rfl
 rw [xA] at this
 exact this
@[push_cast] theorem MZ (xs:List cr) (i:Int):(fl xs).getD (i.toNat*12+11) (.v (.int .i64 0)) = .v (.int .i64 (ix xs i).seq):=by
 have:=fp xs i 11 (by decide) (.v (.int .i64 0):SV) rfl
 rw [xA] at this
 exact this
structure bV where
 now:Int
 Ring_Next:Int
 Ring_List:(List Int)
 deriving Inhabited,DecidableEq
instance : b_ bV:=⟨3,λd=>[.v (.int .i64 d.now),.v (.int .i64 d.Ring_Next),.sl d.Ring_List.length (fl d.Ring_List)],λ_=>rfl,λ_=>rfl,λ_=>by simp only [iq,SV.st,kW,db]⟩
@[push_cast] theorem w_:b_.sz bV=3:=rfl
@[push_cast] theorem Jt (d:bV):b_.cells d=[.v (.int .i64 d.now),.v (.int .i64 d.Ring_Next),.sl d.Ring_List.length (fl d.Ring_List)]:=rfl
@[push_cast] theorem KS (xs:List bV) (x0:Int) (x1:Int) (x2:(List Int)):fl xs++[.v (.int .i64 x0),.v (.int .i64 x1),.sl x2.length (fl x2)]=fl (xs++[bV.mk x0 x1 x2]):=by rw [fG];rfl
@[push_cast] theorem I8 (xs:List bV) (i:Int):(fl xs).getD (i.toNat*3) (.v (.int .i64 0)) = .v (.int .i64 (ix xs i).now):=by
 have:=fp xs i 0 (by decide) (.v (.int .i64 0):SV) rfl
 rw [w_,eE] at this
 exact this
@[push_cast] theorem Ex (xs:List bV) (i:Int):(fl xs).getD (i.toNat*3+1) (.v (.int .i64 0)) = .v (.int .i64 (ix xs i).Ring_Next):=by
 have:=fp xs i 1 (by decide) (.v (.int .i64 0):SV) rfl
 rw [w_] at this
 exact this
structure cI where
 Task:Int
 Case:Int
 Value:Int
 deriving Inhabited,DecidableEq
instance : b_ cI:=⟨3,λd=>[.v (.int .i64 d.Task),.v (.int .i64 d.Case),.v (.int .i64 d.Value)],λ_=>rfl,λ_=>rfl,λ_=>by simp only [iq,SV.st,kW,db]⟩
@[push_cast] theorem NY (xs:List cI):iU (fl xs)=true:=m8 (λ_=>rfl) xs
@[push_cast] theorem yE:b_.sz cI=3:=rfl
@[push_cast] theorem M0 (d:cI):b_.cells d=[.v (.int .i64 d.Task),.v (.int .i64 d.Case),.v (.int .i64 d.Value)]:=rfl
@[push_cast] theorem Nx (xs:List cI) (x0:Int) (x1:Int) (x2:Int):fl xs++[.v (.int .i64 x0),.v (.int .i64 x1),.v (.int .i64 x2)]=fl (xs++[cI.mk x0 x1 x2]):=by rw [fG];rfl
@[push_cast] theorem Lv (xs:List cI) (i:Int):(fl xs).getD (i.toNat*3) (.v (.int .i64 0)) = .v (.int .i64 (ix xs i).Task):=by
 have:=fp xs i 0 (by decide) (.v (.int .i64 0):SV) rfl
 rw [yE,eE] at this
 exact this
@[push_cast] theorem Lw (xs:List cI) (i:Int):(fl xs).getD (i.toNat*3+1) (.v (.int .i64 0)) = .v (.int .i64 (ix xs i).Case):=by
 have:=fp xs i 1 (by decide) (.v (.int .i64 0):SV) rfl
 rw [yE] at this
 exact this
@[push_cast] theorem KT (xs:List cI) (i:Int):(fl xs).getD (i.toNat*3+2) (.v (.int .i64 0)) = .v (.int .i64 (ix xs i).Value):=by
 have:=fp xs i 2 (by decide) (.v (.int .i64 0):SV) rfl
 rw [yE] at this
 exact this
structure cR where
 Cap:Int
 Items:(List Int)
 Closed:Bool
 Senders:(List cI)
 Getters:(List cI)
 deriving Inhabited,DecidableEq
instance : b_ cR:=⟨5,λd=>[.v (.int .i64 d.Cap),.sl d.Items.length (fl d.Items),.v (.bool d.Closed),.sl d.Senders.length (fl d.Senders),.sl d.Getters.length (fl d.Getters)],λ_=>rfl,λ_=>rfl,λ_=>by simp only [iq,SV.st,kW,db]⟩
@[push_cast] theorem Ff:b_.sz cR=5:=rfl
@[push_cast] theorem Ny (d:cR):b_.cells d=[.v (.int .i64 d.Cap),.sl d.Items.length (fl d.Items),.v (.bool d.Closed),.sl d.Senders.length (fl d.Senders),.sl d.Getters.length (fl d.Getters)]:=rfl
@[push_cast] theorem NZ (xs:List cR) (x0:Int) (x1:(List Int)) (x2:Bool) (x3:(List cI)) (x4:(List cI)):fl xs++[.v (.int .i64 x0),.sl x1.length (fl x1),.v (.bool x2),.sl x3.length (fl x3),.sl x4.length (fl x4)]=fl (xs++[cR.mk x0 x1 x2 x3 x4]):=by rw [fG];rfl
@[push_cast] theorem M7 (xs:List cR) (i:Int):(fl xs).getD (i.toNat*5) (.v (.int .i64 0)) = .v (.int .i64 (ix xs i).Cap):=by
 have:=fp xs i 0 (by decide) (.v (.int .i64 0):SV) rfl
 rw [Ff,eE] at this
 exact this
@[push_cast] theorem KU (xs:List cR) (i:Int):(fl xs).getD (i.toNat*5+2) (.v (.bool false)) = .v (.bool (ix xs i).Closed):=by
 have:=fp xs i 2 (by decide) (.v (.bool false):SV) rfl
 rw [Ff] at this
 exact this
structure dS where
 Task:Int
 Write:Bool
 N:Int
 deriving Inhabited,DecidableEq
instance : b_ dS:=⟨3,λd=>[.v (.int .i64 d.Task),.v (.bool d.Write),.v (.int .i64 d.N)],λ_=>rfl,λ_=>rfl,λ_=>by simp only [iq,SV.st,kW,db]⟩
@[push_cast] theorem Oq (xs:List dS):iU (fl xs)=true:=m8 (λ_=>rfl) xs
@[push_cast] theorem AC:b_.sz dS=3:=rfl
@[push_cast] theorem Nz (d:dS):b_.cells d=[.v (.int .i64 d.Task),.v (.bool d.Write),.v (.int .i64 d.N)]:=rfl
@[push_cast] theorem N0 (xs:List dS) (x0:Int) (x1:Bool) (x2:Int):fl xs++[.v (.int .i64 x0),.v (.bool x1),.v (.int .i64 x2)]=fl (xs++[dS.mk x0 x1 x2]):=by rw [fG];rfl
@[push_cast] theorem Ms (xs:List dS) (i:Int):(fl xs).getD (i.toNat*3) (.v (.int .i64 0)) = .v (.int .i64 (ix xs i).Task):=by
 have:=fp xs i 0 (by decide) (.v (.int .i64 0):SV) rfl
 rw [AC,eE] at this
 exact this
@[push_cast] theorem Lx (xs:List dS) (i:Int):(fl xs).getD (i.toNat*3+1) (.v (.bool false)) = .v (.bool (ix xs i).Write):=by
 have:=fp xs i 1 (by decide) (.v (.bool false):SV) rfl
 rw [AC] at this
 exact this
@[push_cast] theorem N7 (xs:List dS) (i:Int):(fl xs).getD (i.toNat*3+2) (.v (.int .i64 0)) = .v (.int .i64 (ix xs i).N):=by
 have:=fp xs i 2 (by decide) (.v (.int .i64 0):SV) rfl
 rw [AC] at this
 exact this
structure dh where
 Readers:Int
 Writer:Bool
 Line:(List dS)
 deriving Inhabited,DecidableEq
instance : b_ dh:=⟨3,λd=>[.v (.int .i64 d.Readers),.v (.bool d.Writer),.sl d.Line.length (fl d.Line)],λ_=>rfl,λ_=>rfl,λ_=>by simp only [iq,SV.st,kW,db]⟩
@[push_cast] theorem Fg:b_.sz dh=3:=rfl
@[push_cast] theorem NA (d:dh):b_.cells d=[.v (.int .i64 d.Readers),.v (.bool d.Writer),.sl d.Line.length (fl d.Line)]:=rfl
@[push_cast] theorem N8 (xs:List dh) (x0:Int) (x1:Bool) (x2:(List dS)):fl xs++[.v (.int .i64 x0),.v (.bool x1),.sl x2.length (fl x2)]=fl (xs++[dh.mk x0 x1 x2]):=by rw [fG];rfl
@[push_cast] theorem Ju (xs:List dh) (i:Int):(fl xs).getD (i.toNat*3) (.v (.int .i64 0)) = .v (.int .i64 (ix xs i).Readers):=by
 have:=fp xs i 0 (by decide) (.v (.int .i64 0):SV) rfl
 rw [Fg,eE] at this
 exact this
@[push_cast] theorem KV (xs:List dh) (i:Int):(fl xs).getD (i.toNat*3+1) (.v (.bool false)) = .v (.bool (ix xs i).Writer):=by
 have:=fp xs i 1 (by decide) (.v (.bool false):SV) rfl
 rw [Fg] at this
 exact this
structure cX where
 Count:Int
 Line:(List Int)
 deriving Inhabited,DecidableEq
instance : b_ cX:=⟨2,λd=>[.v (.int .i64 d.Count),.sl d.Line.length (fl d.Line)],λ_=>rfl,λ_=>rfl,λ_=>by simp only [iq,SV.st,kW,db]⟩
@[push_cast] theorem I9:b_.sz cX=2:=rfl
@[push_cast] theorem M8 (d:cX):b_.cells d=[.v (.int .i64 d.Count),.sl d.Line.length (fl d.Line)]:=rfl
@[push_cast] theorem NB (xs:List cX) (x0:Int) (x1:(List Int)):fl xs++[.v (.int .i64 x0),.sl x1.length (fl x1)]=fl (xs++[cX.mk x0 x1]):=by rw [fG];rfl
@[push_cast] theorem KW (xs:List cX) (i:Int):(fl xs).getD (i.toNat*2) (.v (.int .i64 0)) = .v (.int .i64 (ix xs i).Count):=by
 have:=fp xs i 0 (by decide) (.v (.int .i64 0):SV) rfl
 rw [I9,eE] at this
 exact this
structure cz where
 Task:Int
 Op:Int
 Obj:Int
 Value:Int
 deriving Inhabited,DecidableEq
instance : b_ cz:=⟨4,λd=>[.v (.int .i64 d.Task),.v (.int .i64 d.Op),.v (.int .i64 d.Obj),.v (.int .i64 d.Value)],λ_=>rfl,λ_=>rfl,λ_=>by simp only [iq,SV.st,kW,db]⟩
@[push_cast] theorem NC (xs:List cz):iU (fl xs)=true:=m8 (λ_=>rfl) xs
@[push_cast] theorem tM:b_.sz cz=4:=rfl
@[push_cast] theorem Mt (d:cz):b_.cells d=[.v (.int .i64 d.Task),.v (.int .i64 d.Op),.v (.int .i64 d.Obj),.v (.int .i64 d.Value)]:=rfl
@[push_cast] theorem M9 (xs:List cz) (x0:Int) (x1:Int) (x2:Int) (x3:Int):fl xs++[.v (.int .i64 x0),.v (.int .i64 x1),.v (.int .i64 x2),.v (.int .i64 x3)]=fl (xs++[cz.mk x0 x1 x2 x3]):=by rw [fG];rfl
@[push_cast] theorem KX (xs:List cz) (i:Int):(fl xs).getD (i.toNat*4) (.v (.int .i64 0)) = .v (.int .i64 (ix xs i).Task):=by
 have:=fp xs i 0 (by decide) (.v (.int .i64 0):SV) rfl
 rw [tM,eE] at this
 exact this
@[push_cast] theorem Mu (xs:List cz) (i:Int):(fl xs).getD (i.toNat*4+1) (.v (.int .i64 0)) = .v (.int .i64 (ix xs i).Op):=by
 have:=fp xs i 1 (by decide) (.v (.int .i64 0):SV) rfl
 rw [tM] at this
 exact this
@[push_cast] theorem Ly (xs:List cz) (i:Int):(fl xs).getD (i.toNat*4+2) (.v (.int .i64 0)) = .v (.int .i64 (ix xs i).Obj):=by
 have:=fp xs i 2 (by decide) (.v (.int .i64 0):SV) rfl
 rw [tM] at this
 exact this
@[push_cast] theorem Jv (xs:List cz) (i:Int):(fl xs).getD (i.toNat*4+3) (.v (.int .i64 0)) = .v (.int .i64 (ix xs i).Value):=by
 have:=fp xs i 3 (by decide) (.v (.int .i64 0):SV) rfl
 rw [tM] at this
 exact this
structure fA where
 Next:Int
 List:(List Int)
 deriving Inhabited,DecidableEq
instance : b_ fA:=⟨2,λd=>[.v (.int .i64 d.Next),.sl d.List.length (fl d.List)],λ_=>rfl,λ_=>rfl,λ_=>by simp only [iq,SV.st,kW,db]⟩
@[push_cast] theorem KY:b_.sz fA=2:=rfl
@[push_cast] theorem ND (d:fA):b_.cells d=[.v (.int .i64 d.Next),.sl d.List.length (fl d.List)]:=rfl
@[push_cast] theorem N9 (xs:List fA) (x0:Int) (x1:(List Int)):fl xs++[.v (.int .i64 x0),.sl x1.length (fl x1)]=fl (xs++[fA.mk x0 x1]):=by rw [fG];rfl
@[push_cast] theorem Mv (xs:List fA) (i:Int):(fl xs).getD (i.toNat*2) (.v (.int .i64 0)) = .v (.int .i64 (ix xs i).Next):=by
 have:=fp xs i 0 (by decide) (.v (.int .i64 0):SV) rfl
 rw [KY,eE] at this
 exact this
structure de where
 Task:Int
 Case:Int
 Value:Int
 Ok:Bool
 Panic:Bool
 deriving Inhabited,DecidableEq
instance : b_ de:=⟨5,λd=>[.v (.int .i64 d.Task),.v (.int .i64 d.Case),.v (.int .i64 d.Value),.v (.bool d.Ok),.v (.bool d.Panic)],λ_=>rfl,λ_=>rfl,λ_=>by simp only [iq,SV.st,kW,db]⟩
@[push_cast] theorem N_ (xs:List de):iU (fl xs)=true:=m8 (λ_=>rfl) xs
@[push_cast] theorem tc:b_.sz de=5:=rfl
@[push_cast] theorem M_ (d:de):b_.cells d=[.v (.int .i64 d.Task),.v (.int .i64 d.Case),.v (.int .i64 d.Value),.v (.bool d.Ok),.v (.bool d.Panic)]:=rfl
@[push_cast] theorem NE (xs:List de) (x0:Int) (x1:Int) (x2:Int) (x3:Bool) (x4:Bool):fl xs++[.v (.int .i64 x0),.v (.int .i64 x1),.v (.int .i64 x2),.v (.bool x3),.v (.bool x4)]=fl (xs++[de.mk x0 x1 x2 x3 x4]):=by rw [fG];rfl
@[push_cast] theorem Lz (xs:List de) (i:Int):(fl xs).getD (i.toNat*5) (.v (.int .i64 0)) = .v (.int .i64 (ix xs i).Task):=by
 have:=fp xs i 0 (by decide) (.v (.int .i64 0):SV) rfl
 rw [tc,eE] at this
 exact this
@[push_cast] theorem LA (xs:List de) (i:Int):(fl xs).getD (i.toNat*5+1) (.v (.int .i64 0)) = .v (.int .i64 (ix xs i).Case):=by
 have:=fp xs i 1 (by decide) (.v (.int .i64 0):SV) rfl
 rw [tc] at this
 exact this
@[push_cast] theorem KZ (xs:List de) (i:Int):(fl xs).getD (i.toNat*5+2) (.v (.int .i64 0)) = .v (.int .i64 (ix xs i).Value):=by
 have:=fp xs i 2 (by decide) (.v (.int .i64 0):SV) rfl
 rw [tc] at this
 exact this
@[push_cast] theorem Na (xs:List de) (i:Int):(fl xs).getD (i.toNat*5+3) (.v (.bool false)) = .v (.bool (ix xs i).Ok):=by
 have:=fp xs i 3 (by decide) (.v (.bool false):SV) rfl
 rw [tc] at this
 exact this
@[push_cast] theorem K0 (xs:List de) (i:Int):(fl xs).getD (i.toNat*5+4) (.v (.bool false)) = .v (.bool (ix xs i).Panic):=by
 have:=fp xs i 4 (by decide) (.v (.bool false):SV) rfl
 rw [tc] at this
 exact this
structure lp where
 Done:Bool
 Panic:Bool
 Ok:Bool
 Value:Int
 Case:Int
 Wakes:(List de)
 deriving Inhabited,DecidableEq
instance : b_ lp:=⟨6,λd=>[.v (.bool d.Done),.v (.bool d.Panic),.v (.bool d.Ok),.v (.int .i64 d.Value),.v (.int .i64 d.Case),.sl d.Wakes.length (fl d.Wakes)],λ_=>rfl,λ_=>rfl,λ_=>by simp only [iq,SV.st,kW,db]⟩
@[push_cast] theorem rM:b_.sz lp=6:=rfl
@[push_cast] theorem Mw (d:lp):b_.cells d=[.v (.bool d.Done),.v (.bool d.Panic),.v (.bool d.Ok),.v (.int .i64 d.Value),.v (.int .i64 d.Case),.sl d.Wakes.length (fl d.Wakes)]:=rfl
@[push_cast] theorem Nb (xs:List lp) (x0:Bool) (x1:Bool) (x2:Bool) (x3:Int) (x4:Int) (x5:(List de)):fl xs++[.v (.bool x0),.v (.bool x1),.v (.bool x2),.v (.int .i64 x3),.v (.int .i64 x4),.sl x5.length (fl x5)]=fl (xs++[lp.mk x0 x1 x2 x3 x4 x5]):=by rw [fG];rfl
@[push_cast] theorem K7 (xs:List lp) (i:Int):(fl xs).getD (i.toNat*6) (.v (.bool false)) = .v (.bool (ix xs i).Done):=by
 have:=fp xs i 0 (by decide) (.v (.bool false):SV) rfl
 rw [rM,eE] at this
 exact this
@[push_cast] theorem Jw (xs:List lp) (i:Int):(fl xs).getD (i.toNat*6+1) (.v (.bool false)) = .v (.bool (ix xs i).Panic):=by
 have:=fp xs i 1 (by decide) (.v (.bool false):SV) rfl
 rw [rM] at this
 exact this
@[push_cast] theorem Mx (xs:List lp) (i:Int):(fl xs).getD (i.toNat*6+2) (.v (.bool false)) = .v (.bool (ix xs i).Ok):=by
 have:=fp xs i 2 (by decide) (.v (.bool false):SV) rfl
 rw [rM] at this
 exact this
@[push_cast] theorem Jx (xs:List lp) (i:Int):(fl xs).getD (i.toNat*6+3) (.v (.int .i64 0)) = .v (.int .i64 (ix xs i).Value):=by
 have:=fp xs i 3 (by decide) (.v (.int .i64 0):SV) rfl
 rw [rM] at this
 exact this
@[push_cast] theorem K8 (xs:List lp) (i:Int):(fl xs).getD (i.toNat*6+4) (.v (.int .i64 0)) = .v (.int .i64 (ix xs i).Case):=by
 have:=fp xs i 4 (by decide) (.v (.int .i64 0):SV) rfl
 rw [rM] at this
 exact this
structure jU where
 Trace:(List cz)
 State:Int
 Steps:Int
 Now:Int
 Tasks:(List Int)
 Cells:(List Int)
 deriving Inhabited,DecidableEq
instance : b_ jU:=⟨6,λd=>[.sl d.Trace.length (fl d.Trace),.v (.int .i64 d.State),.v (.int .i64 d.Steps),.v (.int .i64 d.Now),.sl d.Tasks.length (fl d.Tasks),.sl d.Cells.length (fl d.Cells)],λ_=>rfl,λ_=>rfl,λ_=>by simp only [iq,SV.st,kW,db]⟩
@[push_cast] theorem xb:b_.sz jU=6:=rfl
@[push_cast] theorem My (d:jU):b_.cells d=[.sl d.Trace.length (fl d.Trace),.v (.int .i64 d.State),.v (.int .i64 d.Steps),.v (.int .i64 d.Now),.sl d.Tasks.length (fl d.Tasks),.sl d.Cells.length (fl d.Cells)]:=rfl
@[push_cast] theorem Nc (xs:List jU) (x0:(List cz)) (x1:Int) (x2:Int) (x3:Int) (x4:(List Int)) (x5:(List Int)):fl xs++[.sl x0.length (fl x0),.v (.int .i64 x1),.v (.int .i64 x2),.v (.int .i64 x3),.sl x4.length (fl x4),.sl x5.length (fl x5)]=fl (xs++[jU.mk x0 x1 x2 x3 x4 x5]):=by rw [fG];rfl
@[push_cast] theorem Jy (xs:List jU) (i:Int):(fl xs).getD (i.toNat*6+1) (.v (.int .i64 0)) = .v (.int .i64 (ix xs i).State):=by
 have:=fp xs i 1 (by decide) (.v (.int .i64 0):SV) rfl
 rw [xb] at this
 exact this
@[push_cast] theorem Jz (xs:List jU) (i:Int):(fl xs).getD (i.toNat*6+2) (.v (.int .i64 0)) = .v (.int .i64 (ix xs i).Steps):=by
 have:=fp xs i 2 (by decide) (.v (.int .i64 0):SV) rfl
 rw [xb] at this
 exact this
@[push_cast] theorem LB (xs:List jU) (i:Int):(fl xs).getD (i.toNat*6+3) (.v (.int .i64 0)) = .v (.int .i64 (ix xs i).Now):=by
 have:=fp xs i 3 (by decide) (.v (.int .i64 0):SV) rfl
 rw [xb] at this
 exact this
def ie:List kind:=[⟨⟨#[]⟩,⟨#[]⟩⟩,⟨⟨#[115,101,116]⟩,⟨#[114,110]⟩⟩,⟨⟨#[99,111,112,121]⟩,⟨#[114,114]⟩⟩,⟨⟨#[97,100,100]⟩,⟨#[114,114]⟩⟩,⟨⟨#[115,117,98]⟩,⟨#[114,114]⟩⟩,⟨⟨#[108,101,115,115]⟩,⟨#[114,114]⟩⟩,⟨⟨#[106,117,109,112]⟩,⟨#[99,45]⟩⟩,⟨⟨#[122,101,114,111]⟩,⟨#[114,99]⟩⟩,⟨⟨#[112,114,105,110,116]⟩,⟨#[114,45]⟩⟩,⟨⟨#[101,110,100]⟩,⟨#[45,45]⟩⟩,⟨⟨#[121,105,101,108,100]⟩,⟨#[45,45]⟩⟩,⟨⟨#[103,111]⟩,⟨#[99,114]⟩⟩,⟨⟨#[108,111,97,100]⟩,⟨#[114,109]⟩⟩,⟨⟨#[115,116,111,114,101]⟩,⟨#[109,114]⟩⟩,⟨⟨#[115,101,110,100]⟩,⟨#[112,114]⟩⟩,⟨⟨#[103,101,116]⟩,⟨#[114,112]⟩⟩,⟨⟨#[115,104,117,116]⟩,⟨#[112,45]⟩⟩,⟨⟨#[108,111,99,107]⟩,⟨#[108,107]⟩⟩,⟨⟨#[117,110,108,111,99,107]⟩,⟨#[108,107]⟩⟩,⟨⟨#[99,111,117,110,116]⟩,⟨#[103,114]⟩⟩,⟨⟨#[119,97,105,116]⟩,⟨#[103,45]⟩⟩,⟨⟨#[115,108,101,101,112]⟩,⟨#[114,45]⟩⟩,⟨⟨#[112,97,110,105,99]⟩,⟨#[45,45]⟩⟩]
def fZ:List ByteArray:=[⟨#[]⟩,⟨#[114,110]⟩,⟨#[114,114]⟩,⟨#[114,114]⟩,⟨#[114,114]⟩,⟨#[114,114]⟩,⟨#[99,45]⟩,⟨#[114,99]⟩,⟨#[114,45]⟩,⟨#[45,45]⟩,⟨#[45,45]⟩,⟨#[99,114]⟩,⟨#[114,109]⟩,⟨#[109,114]⟩,⟨#[112,114]⟩,⟨#[114,112]⟩,⟨#[112,45]⟩,⟨#[108,107]⟩,⟨#[108,107]⟩,⟨#[103,114]⟩,⟨#[103,45]⟩,⟨#[114,45]⟩,⟨#[45,45]⟩]
def nA (a b:Int):Option (cD):=(some ((cD.mk a b)))
def rN (p:cy) (k x:Int):Option (Bool):=(bif (k==110) then (some (true)) else (some (((decide ((0:Int)<=x))&&(decide (x<(fW [(114,8),(99,(p.Code.length:Int)),(109,p.Cells),(112,(p.Pipes.length:Int)),(108,p.Locks),(103,p.Groups),(107,2),(45,1)] k)))))))
def pB (a:Int) (b:Bool):Option (((Int) ⊕ (cD))):=(bif b then ((nA 5 a).bind λc=>(Option.map Sum.inr (some (c)))) else (some (Sum.inl ((i64.wrap (a+1))))))
def jf (p:cy):Int->Option (((Int) ⊕ (cD))):=λa=>(bif (decide (a<(p.Code.length:Int))) then (bif ((decide ((0:Int)<=a))&&(decide (a<(p.Code.length:Int)))) then (bif ((decide ((ix p.Code a).Op<1))||(decide ((23:Int)<=(ix p.Code a).Op))) then ((nA 4 a).bind λb=>(Option.map Sum.inr (some (b)))) else (bif ((decide ((0:Int)<=(ix p.Code a).Op))&&(decide ((ix p.Code a).Op<(ie.length:Int)))) then (bif (decide ((0:Int)<((((ix ie (ix p.Code a).Op).args).size:Nat):Int))) then ((rN p ((((ix ie (ix p.Code a).Op).args).data.getD ((0:Int)).toNat 0).toNat:Int) (ix p.Code a).A).bind λd=>(bif (!d) then (pB a true) else (bif (decide ((1:Int)<((((ix ie (ix p.Code a).Op).args).size:Nat):Int))) then ((rN p ((((ix ie (ix p.Code a).Op).args).data.getD ((1:Int)).toNat 0).toNat:Int) (ix p.Code a).B).bind λc=>(pB a (!c))) else none))) else none) else none)) else none) else (Option.map Sum.inr (some ((cD.mk 0 0)))))
def mh (p:cy):Int->Option (((Int) ⊕ (cD))):=λa=>(bif (decide (a<(p.Pipes.length:Int))) then (bif ((decide ((0:Int)<=a))&&(decide (a<(p.Pipes.length:Int)))) then (bif ((decide ((ix p.Pipes a)<0))||(decide ((100:Int)<(ix p.Pipes a)))) then ((nA 8 a).bind λb=>(Option.map Sum.inr (some (b)))) else (some (Sum.inl ((i64.wrap (a+1)))))) else none) else (Option.map Sum.inr (dH (jf p) (0))))
def qn (p:cy):Option (cD):=(bif ((decide ((1000:Int)<(p.Code.length:Int)))||(decide ((20:Int)<(p.Pipes.length:Int)))) then ((nA 2 0).bind λb=>(some (b))) else (bif ((decide ((min (min p.Cells p.Locks) p.Groups)<0))||(decide ((20:Int)<(max (max p.Cells p.Locks) p.Groups)))) then ((nA 3 0).bind λa=>(some (a))) else (dH (mh p) (0))))
def pm (a b:Int):Option (cD):=(some ((cD.mk a b)))
def km (p:cy) (c:List bV):Int×(List cR)->Option (((Int×List cR) ⊕ ((List Int)×List cr×List bV×List Int×List cR×List dh×List cX))):=λ(a,b)=>(bif (decide (a<(p.Pipes.length:Int))) then (bif ((decide ((0:Int)<=a))&&(decide (a<(p.Pipes.length:Int)))) then (bif (decide ((b++([(cR.mk (ix p.Pipes a) [] false [] [])]:List cR)).length*88<=140737488355328)) then (some (Sum.inl ((i64.wrap (a+1)),(b++([(cR.mk (ix p.Pipes a) [] false [] [])]:List cR))))) else none) else none) else (Option.map Sum.inr (bif (decide (0<=p.Locks/\p.Locks<=4611686018427387904/\(40:Int)*p.Locks<=140737488355328)) then (bif (decide (0<=p.Groups/\p.Groups<=4611686018427387904/\(32:Int)*p.Groups<=140737488355328)) then (some ((List.replicate (p.Cells).toNat (default:Int)),([((cr.mk 0 (default:(dn 8)) 0 0 0):cr)]:List cr),c,([1]:List Int),b,(List.replicate (p.Locks).toNat (default:dh)),(List.replicate (p.Groups).toNat (default:cX)))) else none) else none)))
def kn (p:cy) (c:Int):Int×(List bV)->Option (((Int×List bV) ⊕ ((List Int)×List cr×List bV×List Int×List cR×List dh×List cX))):=λ(b,a)=>(bif (decide (b<c)) then (bif (decide ((a++[((bV.mk 0 0 []):bV)]).length*8<=140737488355328)) then (some (Sum.inl ((i64.wrap (b+1)),(a++[((bV.mk 0 0 []):bV)])))) else none) else (Option.map Sum.inr (dH (km p a) (0,[]))))
def lW (p:cy) (a:Int):Option ((List Int)×List cr×List bV×List Int×List cR×List dh×List cX):=(bif (decide (0<=p.Cells/\p.Cells<=4611686018427387904/\(8:Int)*p.Cells<=140737488355328)) then (dH (kn p a) (0,[])) else none)
def iA (m:(List (PT cr))) (t:Int):Option (cr):=(bif ((decide ((0:Int)<=(i64.wrap (t-1))))&&(decide ((i64.wrap (t-1))<(m.length:Int)))) then (some ((ix m (i64.wrap (t-1))).x)) else none)
def nM (x:Int):Option (Bool):=(some ((x != x)))
def kY (x y:Int):Option (Int):=((nM x).bind λb=>((nM y).bind λa=>(bif b then (bif a then (some (0)) else (some ((-1)))) else (bif a then (some (1)) else (bif (decide (x<y)) then (some ((-1))) else (bif (decide (y<x)) then (some (1)) else (some (0))))))))
def pC (b:List Int):Int->Option (((Int) ⊕ (Int))):=λa=>(bif (decide (a<(b.length:Int))) then (bif ((decide ((0:Int)<=a))&&(decide (a<(b.length:Int)))) then (bif ((ix b a) != 0) then (Option.map Sum.inr (some ((ix b a)))) else (some (Sum.inl ((i64.wrap (a+1)))))) else none) else (Option.map Sum.inr (some (0))))
def qo (a:List Int):Option (Int):=(dH (pC a) (0))
def eF (j b:Int) (i:(List (PT cr))):Option (Int):=((iA i j).bind λh=>((iA i b).bind λf=>((kY h.when f.when).bind λc=>((iA i j).bind λg=>((iA i b).bind λe=>((kY g.seq e.seq).bind λd=>((qo ([c,d]:List Int)).bind λa=>(some (a)))))))))
def ko (c0:List Int) (ts:(List (PT cr))):Option (List Int):=open Classical in if (∀ a b:Int,1<=a/\a<=((((c0.foldl max 0).toNat):Nat):Int)->1<=b/\b<=((((c0.foldl max 0).toNat):Nat):Int)->(eF a b ts).isSome=true)/\Go.Sort.SWO (Go.Proofs.ltOf λ(a b:Rg ((c0.foldl max 0).toNat))=>(λa b:Int=>(eF a b ts).getD 0) a.1 b.1)/\(∀ x∈c0,1<=x/\x<=((((c0.foldl max 0).toNat):Nat):Int))/\c0.length<4611686018427387904 then some (oR ((c0.foldl max 0).toNat) (λa b:Int=>(eF a b ts).getD 0) c0) else none
def iN (b:Int) (c:List cr) (a:List Int):Option (((Int×List cr×List Int) ⊕ (Int×List Int×List cr))):=(some (Sum.inl ((i64.wrap (b+1)),c,a)))
def kc (c:Int) (g:List cr) (f:List Int):Int×List cr×(List Int)->Option (((Int×List cr×List Int) ⊕ (Int×List Int×List cr))):=λ(a,b,d)=>(bif (decide (a<(g.length:Int))) then (bif ((decide ((0:Int)<=a))&&(decide (a<(b.length:Int)))) then (bif (((ix b a).state==2)&&(decide ((ix b a).when<=(i64.wrap (c+1))))) then (bif (decide ((d++([(i64.wrap (a+1))]:List Int)).length*8<=140737488355328)) then (iN a (b.set a.toNat ((cr.mk (ix b a).pc (ix b a).r 0 (ix b a).when (ix b a).seq):cr)) (d++([(i64.wrap (a+1))]:List Int))) else none) else (iN a b d)) else none) else (Option.map Sum.inr ((ko d (b.map PT.mk)).bind λe=>(bif (decide (e.length=d.length)) then (bif (decide ((f++e).length*8<=140737488355328)) then (some ((i64.wrap (c+1)),(f++e),b)) else none) else none))))
def jV (a:Int) (b:List cr) (c:List Int):Option (Int×List Int×List cr):=(dH (kc a b c) (0,b,[]))
def ii (a b:Int):Option (cD):=(some ((cD.mk a b)))
def mj (q:fA):Int×(List (Int×Int))->Option (((Int×(List (Int×Int))) ⊕ (cD))):=λ(a,b)=>(bif (decide (a<(q.List.length:Int))) then (bif ((decide ((0:Int)<=a))&&(decide (a<(q.List.length:Int)))) then (bif (decide ((ix q.List a)<1)) then ((ii 3 (i64.wrap (a+1))).bind λc=>(Option.map Sum.inr (some (c)))) else (bif (decide ((0:Int)<(fW b (ix q.List a)))) then ((ii 10 (i64.wrap (a+1))).bind λd=>(Option.map Sum.inr (some (d)))) else (some (Sum.inl ((i64.wrap (a+1)),(iv b (ix q.List a) 1)))))) else none) else (Option.map Sum.inr (some ((cD.mk 0 0)))))
def nN (q:fA) (a:(List (Int×Int))):Option (cD):=(dH (mj q) (0,a))
def kF (q:fA):Option (cD):=(bif (decide ((256:Int)<(q.List.length:Int))) then ((ii 2 0).bind λb=>(some (b))) else (bif (decide (q.Next<0)) then ((ii 3 0).bind λa=>(some (a))) else (bif (decide ((0:Int)<q.Next)) then (nN q (iv [] q.Next 1)) else (nN q []))))
def ff (s:List Int):Option ((List Int)):=(bif (decide ((([]:List Int)++s).length*8<=140737488355328)) then (some ((([]:List Int)++s))) else none)
def kG (q:fA):Option ((List Int)):=((ff q.List).bind λa=>(some (a)))
def iX (q:fA):Option (Int×Int×cD×List Int):=((kF q).bind λb=>(bif (b.Code != 0) then (some (0,0,b,[])) else ((kG q).bind λa=>(bif (decide ((0:Int)<q.Next)) then (some (0,q.Next,(cD.mk 0 0),a)) else (bif ((a.length:Int)==0) then ((ii 6 0).bind λd=>(some (0,0,d,[]))) else (bif (decide ((0:Int)<(a.length:Int))) then (bif (decide ((1:Int)<=(a.length:Int))) then ((ff (cut a (1:Int) (a.length:Int))).bind λc=>(some (q.Next,(ix a (0:Int)),(cD.mk 0 0),c))) else none) else none))))))
def fM (c:Int) (b:cD) (a:List bV):Option (Bool×List bV):=(bif (decide (0<=c/\c<(a.length:Int))) then (some ((b.Code==0),a)) else none)
def dV (b:Int) (c:List bV):Option (Bool×List bV):=(bif (decide (0<=b/\b<(c.length:Int))) then ((iX (fA.mk (ix c b).Ring_Next (ix c b).Ring_List)).bind λa=>((λz0:List bV=>(bif (a.2.2.1.Code==0) then (fM b a.2.2.1 (z0.set b.toNat ((bV.mk a.2.1 (ix z0 b).Ring_Next (ix z0 b).Ring_List):bV))) else (fM b a.2.2.1 c))) (c.set b.toNat ((bV.mk (ix c b).now a.1 a.2.2.2):bV)))) else none)
def mP (q:fA):Option ((List Int)):=(bif (decide ((0:Int)<q.Next)) then (bif (decide ((([q.Next]:List Int)++q.List).length*8<=140737488355328)) then (some ((([q.Next]:List Int)++q.List))) else none) else ((ff q.List).bind λa=>(some (a))))
def nB (b:List Int):Int×(List (Int×Int))->Option (((Int×(List (Int×Int))) ⊕ (Int))):=λ(a,c)=>(bif (decide (a<(b.length:Int))) then (bif ((decide ((0:Int)<=a))&&(decide (a<(b.length:Int)))) then (bif (decide ((0:Int)<(fW c (ix b a)))) then (Option.map Sum.inr (some (a))) else (some (Sum.inl ((i64.wrap (a+1)),(iv c (ix b a) 1))))) else none) else (Option.map Sum.inr (some ((-1)))))
def nC (d b:List Int):Int×(List (Int×Int))->Option (((Int×(List (Int×Int))) ⊕ (Int))):=λ(a,c)=>(bif (decide (a<(d.length:Int))) then (bif ((decide ((0:Int)<=a))&&(decide (a<(d.length:Int)))) then (some (Sum.inl ((i64.wrap (a+1)),(iv c (ix d a) 1)))) else none) else (Option.map Sum.inr (dH (nB b) (0,c))))
def ml (a b:List Int):Option (Int):=(dH (nC a b) (0,[]))
def kx (q:fA) (a:Int) (c:List Int):Int->Option (((Int) ⊕ (Int×cD×List Int×List Int))):=λb=>(bif (decide (b<(c.length:Int))) then (bif ((decide ((0:Int)<=b))&&(decide (b<(c.length:Int)))) then (bif (decide ((ix c b)<1)) then ((ii 5 b).bind λi=>(Option.map Sum.inr (some (0,i,[],[])))) else (some (Sum.inl ((i64.wrap (b+1)))))) else none) else (Option.map Sum.inr ((mP q).bind λg=>((ml g c).bind λe=>(bif (decide ((0:Int)<=e)) then ((ii 8 e).bind λh=>(some (0,h,[],[]))) else (bif ((decide (a<1))||(decide ((64:Int)<a))) then ((ii 3 (-1)).bind λf=>(some (0,f,[],[]))) else (bif (a != 0) then ((kG q).bind λd=>(bif ((decide ((0:Int)<=(min (min (min (i64.wrap ((i64.wrap (Int.tdiv (c.length:Int) a))+1)) (c.length:Int)) 128) (i64.wrap ((256:Int)-(q.List.length:Int))))))&&(decide ((min (min (min (i64.wrap ((i64.wrap (Int.tdiv (c.length:Int) a))+1)) (c.length:Int)) 128) (i64.wrap ((256:Int)-(q.List.length:Int))))<=(c.length:Int)))) then (bif (decide ((d++(cut c (0:Int) (min (min (min (i64.wrap ((i64.wrap (Int.tdiv (c.length:Int) a))+1)) (c.length:Int)) 128) (i64.wrap ((256:Int)-(q.List.length:Int)))))).length*8<=140737488355328)) then (bif ((decide ((0:Int)<=(min (min (min (i64.wrap ((i64.wrap (Int.tdiv (c.length:Int) a))+1)) (c.length:Int)) 128) (i64.wrap ((256:Int)-(q.List.length:Int))))))&&(decide ((min (min (min (i64.wrap ((i64.wrap (Int.tdiv (c.length:Int) a))+1)) (c.length:Int)) 128) (i64.wrap ((256:Int)-(q.List.length:Int))))<=(c.length:Int)))) then ((ff (cut c (min (min (min (i64.wrap ((i64.wrap (Int.tdiv (c.length:Int) a))+1)) (c.length:Int)) 128) (i64.wrap ((256:Int)-(q.List.length:Int)))) (c.length:Int))).bind λj=>(some (q.Next,(cD.mk 0 0),(d++(cut c (0:Int) (min (min (min (i64.wrap ((i64.wrap (Int.tdiv (c.length:Int) a))+1)) (c.length:Int)) 128) (i64.wrap ((256:Int)-(q.List.length:Int)))))),j))) else none) else none) else none)) else none)))))))
def jg (q:fA) (b:Int) (d:List Int):Option (Int×cD×List Int×List Int):=((kF q).bind λa=>(bif (a.Code != 0) then (some (0,a,[],[])) else (bif (decide ((5000:Int)<(d.length:Int))) then ((ii 2 (-1)).bind λc=>(some (0,c,[],[]))) else (dH (kx q b d) (0)))))
def jh (c f:fA) (g:Bool):Int->Option (((Int) ⊕ (Int×Int×Int×cD×List Int×List Int))):=λd=>(bif (decide (d<((([c,f]:List fA).length:Nat):Int))) then (bif ((decide ((0:Int)<=d))&&(decide (d<((([c,f]:List fA).length:Nat):Int)))) then ((kF (ix ([c,f]:List fA) d)).bind λe=>(bif (e.Code != 0) then (Option.map Sum.inr (some (0,0,0,e,[],[]))) else (some (Sum.inl ((i64.wrap (d+1))))))) else none) else (Option.map Sum.inr ((mP c).bind λh=>((mP f).bind λl=>((ml h l).bind λk=>(bif (decide ((0:Int)<=k)) then ((ii 8 0).bind λi=>(some (0,0,0,i,[],[]))) else ((kG c).bind λa=>((kG f).bind λb=>(bif ((a.length:Int)==0) then (bif ((!g)||((c.Next==0)||((i64.wrap ((256:Int)-(b.length:Int)))==0))) then (some (c.Next,f.Next,0,(cD.mk 0 0),a,b)) else (bif (decide ((b++([c.Next]:List Int)).length*8<=140737488355328)) then (some (0,f.Next,1,(cD.mk 0 0),a,(b++([c.Next]:List Int)))) else none)) else (bif ((decide ((0:Int)<=(min (i64.wrap ((a.length:Int)-(i64.wrap (Int.tdiv (a.length:Int) 2)))) (i64.wrap ((256:Int)-(b.length:Int))))))&&(decide ((min (i64.wrap ((a.length:Int)-(i64.wrap (Int.tdiv (a.length:Int) 2)))) (i64.wrap ((256:Int)-(b.length:Int))))<=(a.length:Int)))) then (bif (decide ((b++(cut a (0:Int) (min (i64.wrap ((a.length:Int)-(i64.wrap (Int.tdiv (a.length:Int) 2)))) (i64.wrap ((256:Int)-(b.length:Int)))))).length*8<=140737488355328)) then (bif ((decide ((0:Int)<=(min (i64.wrap ((a.length:Int)-(i64.wrap (Int.tdiv (a.length:Int) 2)))) (i64.wrap ((256:Int)-(b.length:Int))))))&&(decide ((min (i64.wrap ((a.length:Int)-(i64.wrap (Int.tdiv (a.length:Int) 2)))) (i64.wrap ((256:Int)-(b.length:Int))))<=(a.length:Int)))) then ((ff (cut a (min (i64.wrap ((a.length:Int)-(i64.wrap (Int.tdiv (a.length:Int) 2)))) (i64.wrap ((256:Int)-(b.length:Int)))) (a.length:Int))).bind λj=>(some (c.Next,f.Next,(min (i64.wrap ((a.length:Int)-(i64.wrap (Int.tdiv (a.length:Int) 2)))) (i64.wrap ((256:Int)-(b.length:Int)))),(cD.mk 0 0),j,(b++(cut a (0:Int) (min (i64.wrap ((a.length:Int)-(i64.wrap (Int.tdiv (a.length:Int) 2)))) (i64.wrap ((256:Int)-(b.length:Int))))))))) else none) else none) else none))))))))))
def nD (b c:fA) (a:Bool):Option (Int×Int×Int×cD×List Int×List Int):=(dH (jh b c a) (0))
def ke (p:Int) (e:List Int):Int×(List bV)->Option (((Int×List bV) ⊕ (Bool×List Int×List bV))):=λ(d,a)=>(bif (decide (0<=p/\p<(a.length:Int))) then (bif (decide (d<(a.length:Int))) then (bif ((a.length:Int) != 0) then (bif ((decide ((0:Int)<=(Int.tmod (i64.wrap (p+d)) (a.length:Int))))&&(decide ((Int.tmod (i64.wrap (p+d)) (a.length:Int))<(a.length:Int)))) then ((nD (fA.mk (ix a (Int.tmod (i64.wrap (p+d)) (a.length:Int))).Ring_Next (ix a (Int.tmod (i64.wrap (p+d)) (a.length:Int))).Ring_List) (fA.mk (ix a p).Ring_Next (ix a p).Ring_List) true).bind λb=>(bif (decide ((0:Int)<b.2.2.1)) then ((λz0:List bV=>((λz1:List bV=>((dV p z1).bind λc=>(bif (decide (c.2.length=z1.length)) then (bif (decide (0<=p/\p<(c.2.length:Int))) then (Option.map Sum.inr (some (c.1,e,c.2))) else none) else none))) (z0.set p.toNat ((bV.mk (ix z0 p).now b.2.1 b.2.2.2.2.2):bV)))) (a.set (Int.tmod (i64.wrap (p+d)) (a.length:Int)).toNat ((bV.mk (ix a (Int.tmod (i64.wrap (p+d)) (a.length:Int))).now b.1 b.2.2.2.2.1):bV))) else (some (Sum.inl ((i64.wrap (d+1)),a))))) else none) else none) else (Option.map Sum.inr (some (false,e,a)))) else none)
def gm (p:Int) (e:List bV) (d:List Int):Option (Bool×List Int×List bV):=(bif ((decide ((0:Int)<=p))&&(decide (p<(e.length:Int)))) then ((dV p e).bind λa=>(bif (decide (a.2.length=e.length)) then (bif (decide (0<=p/\p<(a.2.length:Int))) then (bif a.1 then (some (true,d,a.2)) else (bif (decide ((0:Int)<(d.length:Int))) then ((jg (fA.mk (ix a.2 p).Ring_Next (ix a.2 p).Ring_List) (a.2.length:Int) d).bind λb=>((λz0:List bV=>((dV p z0).bind λc=>(bif (decide (c.2.length=z0.length)) then (bif (decide (0<=p/\p<(c.2.length:Int))) then (some (c.1,b.2.2.2,c.2)) else none) else none))) (a.2.set p.toNat ((bV.mk (ix a.2 p).now b.1 b.2.2.1):bV)))) else (dH (ke p d) (1,a.2)))) else none) else none)) else none)
def dL (t:Int) (a:List cr):Option (Int):=(bif ((decide ((0:Int)<=(i64.wrap (t-1))))&&(decide ((i64.wrap (t-1))<(a.length:Int)))) then (some ((i64.wrap (t-1)))) else none)
def oS (a:Int):Option (Bool):=(some (((decide ((1:Int)<=a))&&(decide (a<=7)))))
def gG (b:Int) (a:List cr):Option (Int×List cr):=(some ((i64.wrap (b+1)),a))
def mn (c:dg) (d b:Int) (a:List cr):Option (Int×List cr):=(bif (decide (0<=b/\b<(a.length:Int))) then (bif (c.Op==1) then (bif ((decide ((0:Int)<=c.A))&&(decide (c.A<((8:Nat):Int)))) then (gG d (a.set b.toNat ((cr.mk (ix a b).pc ((ix a b).r.set c.A c.B) (ix a b).state (ix a b).when (ix a b).seq):cr))) else none) else (bif (c.Op==2) then (bif ((decide ((0:Int)<=c.B))&&(decide (c.B<((8:Nat):Int)))) then (bif ((decide ((0:Int)<=c.A))&&(decide (c.A<((8:Nat):Int)))) then (gG d (a.set b.toNat ((cr.mk (ix a b).pc ((ix a b).r.set c.A ((ix a b).r.get c.B)) (ix a b).state (ix a b).when (ix a b).seq):cr))) else none) else none) else (bif (c.Op==3) then (bif ((decide ((0:Int)<=c.A))&&(decide (c.A<((8:Nat):Int)))) then (bif ((decide ((0:Int)<=c.B))&&(decide (c.B<((8:Nat):Int)))) then (gG d (a.set b.toNat ((cr.mk (ix a b).pc ((ix a b).r.set c.A (i64.wrap (((ix a b).r.get c.A)+((ix a b).r.get c.B)))) (ix a b).state (ix a b).when (ix a b).seq):cr))) else none) else none) else (bif (c.Op==4) then (bif ((decide ((0:Int)<=c.A))&&(decide (c.A<((8:Nat):Int)))) then (bif ((decide ((0:Int)<=c.B))&&(decide (c.B<((8:Nat):Int)))) then (gG d (a.set b.toNat ((cr.mk (ix a b).pc ((ix a b).r.set c.A (i64.wrap (((ix a b).r.get c.A)-((ix a b).r.get c.B)))) (ix a b).state (ix a b).when (ix a b).seq):cr))) else none) else none) else (bif (c.Op==5) then (bif ((decide ((0:Int)<=c.A))&&(decide (c.A<((8:Nat):Int)))) then (bif ((decide ((0:Int)<=c.B))&&(decide (c.B<((8:Nat):Int)))) then (gG d (a.set b.toNat ((cr.mk (ix a b).pc ((ix a b).r.set c.A (mY [(true,1)] (decide (((ix a b).r.get c.A)<((ix a b).r.get c.B))))) (ix a b).state (ix a b).when (ix a b).seq):cr))) else none) else none) else (bif (c.Op==6) then (some (c.A,a)) else (bif (c.Op==7) then (bif ((decide ((0:Int)<=c.A))&&(decide (c.A<((8:Nat):Int)))) then (bif (((ix a b).r.get c.A)==0) then (some (c.B,a)) else (gG d a)) else none) else (gG d a)))))))) else none)
def dq (t c b a:Int) (d:List cz):Option ((List cz)):=(bif (decide ((d++([(cz.mk t c b a)]:List cz)).length*32<=140737488355328)) then (some ((d++([(cz.mk t c b a)]:List cz)))) else none)
def iZ (c t:Int) (b:List cr) (d:List bV) (e:List Int):Option (Bool×List Int×List cr×List bV):=(bif (decide (0<=c/\c<(d.length:Int))) then ((dL t b).bind λa=>(bif (decide (0<=a/\a<(b.length:Int))) then (bif (decide ((e++([t]:List Int)).length*8<=140737488355328)) then (some (false,(e++([t]:List Int)),(b.set a.toNat ((cr.mk (i64.wrap ((ix b a).pc+1)) (ix b a).r (ix b a).state (ix b a).when (ix b a).seq):cr)),(d.set c.toNat ((bV.mk 0 (ix d c).Ring_Next (ix d c).Ring_List):bV)))) else none) else none)) else none)
def i4 (s:List Int) (v:Int):Int->Option (((Int) ⊕ (Int))):=λa=>(bif (decide (a<(s.length:Int))) then (bif ((decide ((0:Int)<=a))&&(decide (a<(s.length:Int)))) then (bif (v==(ix s a)) then (Option.map Sum.inr (some (a))) else (some (Sum.inl ((i64.wrap (a+1)))))) else none) else (Option.map Sum.inr (some ((-1)))))
def nE (s:List Int) (v:Int):Option (Int):=(dH (i4 s v) (0))
def ig (s:List Int) (v:Int):Option (Bool):=((nE s v).bind λa=>(some ((decide ((0:Int)<=a)))))
def rp (t:Int) (b:List Int):Option ((List Int)×List Int):=(bif (decide ((b.length:Int)<256)) then (bif (decide ((b++([t]:List Int)).length*8<=140737488355328)) then (some ([],(b++([t]:List Int)))) else none) else (bif (decide ((128:Int)<=(b.length:Int))) then ((ff (cut b (0:Int) (128:Int))).bind λa=>(bif (decide ((a++([t]:List Int)).length*8<=140737488355328)) then (bif (decide ((128:Int)<=(b.length:Int))) then ((ff (cut b (128:Int) (b.length:Int))).bind λc=>(some ((a++([t]:List Int)),c))) else none) else none)) else none))
def po (c a:Int) (d:List Int):Option (Int×cD×List Int×List Int):=((rp c d).bind λb=>(some (a,(cD.mk 0 0),b.2,b.1)))
def qV (q:fA) (a:Int) (d:Bool):Option (Int×cD×List Int×List Int):=((kF q).bind λc=>(bif (c.Code != 0) then (some (0,c,[],[])) else (bif (decide (a<1)) then ((ii 3 (-1)).bind λg=>(some (0,g,[],[]))) else ((mP q).bind λe=>((ig e a).bind λf=>(bif f then ((ii 10 (-1)).bind λh=>(some (0,h,[],[]))) else ((kG q).bind λb=>(bif d then (bif (q.Next==0) then (some (a,(cD.mk 0 0),b,[])) else (po q.Next a b)) else (po a q.Next b)))))))))
def i5 (d t:Int) (c:List cr) (e:List bV) (f:List Int):Option ((List Int)×List cr×List bV):=(bif (decide (0<=d/\d<(e.length:Int))) then ((qV (fA.mk (ix e d).Ring_Next (ix e d).Ring_List) t true).bind λb=>(bif (decide ((f++b.2.2.2).length*8<=140737488355328)) then ((dL t c).bind λa=>(bif (decide (0<=a/\a<(c.length:Int))) then (some ((f++b.2.2.2),(c.set a.toNat ((cr.mk (ix c a).pc (ix c a).r 0 (ix c a).when (ix c a).seq):cr)),(e.set d.toNat ((bV.mk (ix e d).now b.1 b.2.2.1):bV)))) else none)) else none)) else none)
def ji (a b:Int):Option (cD):=(some ((cD.mk a b)))
def pD (l:List cI):Int×(List (Int×Int))->Option (((Int×(List (Int×Int))) ⊕ (Int×(List (Int×Int))))):=λ(a,b)=>(bif (decide (a<(l.length:Int))) then (bif ((decide ((0:Int)<=a))&&(decide (a<(l.length:Int)))) then (bif ((decide ((ix l a).Task<1))||(decide ((ix l a).Case<0))) then (Option.map Sum.inr (some (3,b))) else (bif (decide ((0:Int)<(fW b (ix l a).Task))) then (Option.map Sum.inr (some (10,b))) else (some (Sum.inl ((i64.wrap (a+1)),(iv b (ix l a).Task 1)))))) else none) else (Option.map Sum.inr (some (0,b))))
def qp (l:List cI) (a:(List (Int×Int))):Option (Int×(List (Int×Int))):=(dH (pD l) (0,a))
def nO (p:cR):Int->Option (((Int) ⊕ (cD))):=λa=>(bif (decide (a<(p.Getters.length:Int))) then (bif ((decide ((0:Int)<=a))&&(decide (a<(p.Getters.length:Int)))) then (bif ((ix p.Getters a).Value != 0) then ((ji 5 2).bind λb=>(Option.map Sum.inr (some (b)))) else (some (Sum.inl ((i64.wrap (a+1)))))) else none) else (Option.map Sum.inr (some ((cD.mk 0 0)))))
def oT (p:cR):Option (cD):=(bif (decide ((5000:Int)<(i64.wrap ((i64.wrap ((p.Items.length:Int)+(p.Senders.length:Int)))+(p.Getters.length:Int))))) then ((ji 2 0).bind λg=>(some (g))) else (bif ((decide (p.Cap<0))||(decide ((1000:Int)<p.Cap))) then ((ji 3 0).bind λh=>(some (h))) else (bif (decide (p.Cap<(p.Items.length:Int))) then ((ji 8 0).bind λe=>(some (e))) else (bif (bif (decide ((0:Int)<(p.Senders.length:Int))) then (p.Closed||((decide ((p.Items.length:Int)<p.Cap))||((decide ((0:Int)<(p.Getters.length:Int)))||((decide ((0:Int)<(p.Getters.length:Int)))&&(p.Closed||(decide ((0:Int)<(p.Items.length:Int)))))))) else ((decide ((0:Int)<(p.Getters.length:Int)))&&(p.Closed||(decide ((0:Int)<(p.Items.length:Int)))))) then ((ji 5 0).bind λf=>(some (f))) else ((qp p.Senders []).bind λa=>(bif (a.1 != 0) then ((ji a.1 1).bind λc=>(some (c))) else ((qp p.Getters a.2).bind λb=>(bif (b.1 != 0) then ((ji b.1 2).bind λd=>(some (d))) else (dH (nO p) (0))))))))))
def qq (x:cI) (a:Int):Option (Bool):=(some ((x.Task==a)))
def iB (s:List cI) (f:Int):Int->Option (((Int) ⊕ (Int))):=λa=>(bif (decide (a<(s.length:Int))) then (bif ((decide ((0:Int)<=a))&&(decide (a<(s.length:Int)))) then ((qq (ix s a) f).bind λb=>(bif b then (Option.map Sum.inr (some (a))) else (some (Sum.inl ((i64.wrap (a+1))))))) else none) else (Option.map Sum.inr (some ((-1)))))
def kZ (s:List cI) (f:Int):Option (Int):=(dH (iB s f) (0))
def gK (s:List cI) (f:Int):Option (Bool):=((kZ s f).bind λa=>(some ((decide ((0:Int)<=a)))))
def nP (a:Bool):Option (Bool):=(some (a))
def so (p:cR) (a:Int):Option (Bool):=((gK p.Senders a).bind λc=>(bif c then (nP true) else ((gK p.Getters a).bind λb=>(nP b))))
def oU (p:cR) (b:Int):Option (cD):=((oT p).bind λa=>(bif (a.Code != 0) then (some (a)) else (bif (decide (b<1)) then ((ji 3 (-1)).bind λf=>(some (f))) else ((so p b).bind λc=>(bif c then ((ji 10 (-1)).bind λd=>(some (d))) else (bif ((i64.wrap ((i64.wrap ((p.Items.length:Int)+(p.Senders.length:Int)))+(p.Getters.length:Int)))==5000) then ((ji 9 0).bind λe=>(some (e))) else (some ((cD.mk 0 0)))))))))
def j9 (s:List cI):Option ((List cI)):=(bif (decide ((([]:List cI)++s).length*24<=140737488355328)) then (some ((([]:List cI)++s))) else none)
def oD (p:cR):Option ((List Int)×List cI×List cI):=((ff p.Items).bind λc=>((j9 p.Senders).bind λa=>((j9 p.Getters).bind λb=>(some (c,a,b)))))
def sr (x:cI) (c:Int) (a:Bool) (d:List Int) (b:List cI):Option (Bool×Bool×Int×List de×List Int×List cI):=(bif a then (some (true,true,x.Case,[],d,b)) else (bif (decide ((0:Int)<(b.length:Int))) then (bif (decide ((0:Int)<(b.length:Int))) then (bif (decide ((1:Int)<=(b.length:Int))) then (some (true,false,x.Case,([(de.mk (ix b (0:Int)).Task (ix b (0:Int)).Case x.Value true false)]:List de),d,(cut b (1:Int) (b.length:Int)))) else none) else none) else (bif (decide ((d.length:Int)<c)) then (bif (decide ((d++([x.Value]:List Int)).length*8<=140737488355328)) then (some (true,false,x.Case,[],(d++([x.Value]:List Int)),b)) else none) else (some (false,false,0,[],d,b)))))
def oE (p:cR) (c a:Bool) (b:Int) (d:List Int) (g e:List cI) (f:List de):Option (Int×Bool×Bool×Bool×Int×cD×List Int×List cI×List cI×List de):=(some (p.Cap,p.Closed,c,a,b,(cD.mk 0 0),d,g,e,f))
def mG (p:cR) (c d:Int) (f:Bool):Option (Int×Bool×Bool×Bool×Int×cD×List Int×List cI×List cI×List de):=((oU p c).bind λe=>(bif (e.Code != 0) then (some (0,false,false,false,0,e,[],[],[],[])) else ((oD p).bind λb=>((sr (cI.mk c 0 d) p.Cap p.Closed b.1 b.2.2).bind λa=>(bif ((!a.1)&&(!f)) then (bif (decide ((b.2.1++([(cI.mk c 0 d)]:List cI)).length*24<=140737488355328)) then (oE p a.1 a.2.1 a.2.2.1 a.2.2.2.2.1 (b.2.1++([(cI.mk c 0 d)]:List cI)) a.2.2.2.2.2 a.2.2.2.1) else none) else (oE p a.1 a.2.1 a.2.2.1 a.2.2.2.2.1 b.2.1 a.2.2.2.2.2 a.2.2.2.1))))))
def dI (t b:Int) (c:List cz):Option ((List cz)):=((dq t 22 b 0 c).bind λa=>(some (a)))
def f5 (t:Int) (b:List cr):Option (Bool×List cr):=((dL t b).bind λa=>(bif (decide (0<=a/\a<(b.length:Int))) then (some (false,(b.set a.toNat ((cr.mk (ix b a).pc (ix b a).r 1 (ix b a).when (ix b a).seq):cr)))) else none))
def gE (t:Int) (d:dg) (c:Int) (f:Bool) (g:List cz) (b:List cr):Option ((List cz)×List cr):=((dL t b).bind λa=>(bif (decide (0<=a/\a<(b.length:Int))) then (bif ((decide ((0:Int)<=d.A))&&(decide (d.A<((8:Nat):Int)))) then ((dq t 15 d.B c g).bind λe=>((λz0:List cr=>(some (e,(z0.set a.toNat ((cr.mk (ix z0 a).pc ((ix z0 a).r.set (7:Int) (mY [(true,1)] f)) (ix z0 a).state (ix z0 a).when (ix z0 a).seq):cr))))) (b.set a.toNat ((cr.mk (ix b a).pc ((ix b a).r.set d.A c) (ix b a).state (ix b a).when (ix b a).seq):cr)))) else none) else none))
def fX (d t:Int) (c:List cr) (e:List bV) (f:List Int):Option ((List Int)×List cr×List bV):=(bif (decide (0<=d/\d<(e.length:Int))) then ((dL t c).bind λa=>(bif (decide (0<=a/\a<(c.length:Int))) then ((i5 d t (c.set a.toNat ((cr.mk (i64.wrap ((ix c a).pc+1)) (ix c a).r (ix c a).state (ix c a).when (ix c a).seq):cr)) e f).bind λb=>(bif (decide (0<=d/\d<(b.2.2.length:Int))) then (some (b.1,b.2.1,b.2.2)) else none)) else none)) else none)
def hX (g:Int) (l:List de) (b:Int) (d:List bV) (f:List Int) (e:List cr) (c:List cz):Option (((Int×List cr×List bV×List cz×List Int) ⊕ (Int×List cz×List Int×List cr×List bV))):=(bif (decide (0<=g/\g<(d.length:Int))) then ((fX g (ix l b).Task e d f).bind λa=>(bif (decide (0<=g/\g<(a.2.2.length:Int))) then (some (Sum.inl ((i64.wrap (b+1)),a.2.1,a.2.2,c,a.1))) else none)) else none)
def e_ (n p:Int) (l:List de) (a:List dg) (e:Int):Int×List cr×List bV×List cz×(List Int)->Option (((Int×List cr×List bV×List cz×List Int) ⊕ (Int×List cz×List Int×List cr×List bV))):=λ(c,b,h,f,g)=>(bif (decide (0<=n/\n<(h.length:Int))) then (bif (decide (c<(l.length:Int))) then (bif ((decide ((0:Int)<=c))&&(decide (c<(l.length:Int)))) then ((dL (ix l c).Task b).bind λd=>(bif (decide (0<=d/\d<(b.length:Int))) then (bif ((decide ((0:Int)<=(ix b d).pc))&&(decide ((ix b d).pc<(a.length:Int)))) then (bif (ix l c).Panic then ((dI (ix l c).Task p f).bind λk=>(Option.map Sum.inr (some (2,k,g,b,h)))) else (bif ((ix a (ix b d).pc).Op==14) then ((dL (ix l c).Task b).bind λi=>(bif (decide (0<=i/\i<(b.length:Int))) then (bif ((decide ((0:Int)<=(ix a (ix b d).pc).B))&&(decide ((ix a (ix b d).pc).B<((8:Nat):Int)))) then ((dq (ix l c).Task (ix a (ix b d).pc).Op p ((ix b i).r.get (ix a (ix b d).pc).B) f).bind λm=>(hX n l c h g b m)) else none) else none)) else ((gE (ix l c).Task (ix a (ix b d).pc) (ix l c).Value (ix l c).Ok f b).bind λj=>(hX n l c h g j.2 j.1)))) else none) else none)) else none) else (Option.map Sum.inr (some (e,f,g,b,h)))) else none)
def dG (c p:Int) (l:List de) (a:List dg) (b:Int) (g:List cz) (e:List cr) (d:List bV) (f:List Int):Option (Int×List cz×List Int×List cr×List bV):=(bif (decide (0<=c/\c<(d.length:Int))) then (dH (e_ c p l a b) (0,e,d,g,f)) else none)
def lk (x:cI) (b:Bool) (a:List Int) (c:List cI) (d:List de):Option (Bool×Bool×Int×Int×List de×List Int×List cI):=(bif (decide ((0:Int)<(a.length:Int))) then (bif (decide ((0:Int)<(a.length:Int))) then (bif (decide ((1:Int)<=(a.length:Int))) then (some (true,true,(ix a (0:Int)),x.Case,d,(cut a (1:Int) (a.length:Int)),c)) else none) else none) else (bif b then (some (true,false,0,x.Case,[],a,c)) else (some (false,false,0,0,[],a,c))))
def sw (x:cI) (a:Bool) (c:List Int) (b:List cI):Option (Bool×Bool×Int×Int×List de×List Int×List cI):=(bif (decide ((0:Int)<(b.length:Int))) then (bif (decide ((0:Int)<(b.length:Int))) then (bif (decide ((1:Int)<=(b.length:Int))) then (bif (decide ((c++([(ix b (0:Int)).Value]:List Int)).length*8<=140737488355328)) then (lk x a (c++([(ix b (0:Int)).Value]:List Int)) (cut b (1:Int) (b.length:Int)) ([(de.mk (ix b (0:Int)).Task (ix b (0:Int)).Case 0 false false)]:List de)) else none) else none) else none) else (lk x a c b []))
def pp (p:cR) (b d:Bool) (a c:Int) (e:List Int) (f g:List cI) (h:List de):Option (Int×Bool×Bool×Bool×Int×Int×cD×List Int×List cI×List cI×List de):=(some (p.Cap,p.Closed,b,d,a,c,(cD.mk 0 0),e,f,g,h))
def lX (p:cR) (c:Int) (e:Bool):Option (Int×Bool×Bool×Bool×Int×Int×cD×List Int×List cI×List cI×List de):=((oU p c).bind λd=>(bif (d.Code != 0) then (some (0,false,false,false,0,0,d,[],[],[],[])) else ((oD p).bind λb=>((sw (cI.mk c 0 0) p.Closed b.1 b.2.1).bind λa=>(bif ((!a.1)&&(!e)) then (bif (decide ((b.2.2++([(cI.mk c 0 0)]:List cI)).length*24<=140737488355328)) then (pp p a.1 a.2.1 a.2.2.1 a.2.2.2.1 a.2.2.2.2.2.1 a.2.2.2.2.2.2 (b.2.2++([(cI.mk c 0 0)]:List cI)) a.2.2.2.2.1) else none) else (pp p a.1 a.2.1 a.2.2.1 a.2.2.2.1 a.2.2.2.2.2.1 a.2.2.2.2.2.2 b.2.2 a.2.2.2.2.1))))))
def m9 (c:List cI):Int×(List de)->Option (((Int×List de) ⊕ (Bool×List de×Bool×List cI×List cI))):=λ(a,b)=>(bif (decide (a<(c.length:Int))) then (bif ((decide ((0:Int)<=a))&&(decide (a<(c.length:Int)))) then (bif (decide ((b++([(de.mk (ix c a).Task (ix c a).Case 0 false true)]:List de)).length*32<=140737488355328)) then (some (Sum.inl ((i64.wrap (a+1)),(b++([(de.mk (ix c a).Task (ix c a).Case 0 false true)]:List de))))) else none) else none) else (Option.map Sum.inr (some (false,b,true,[],[]))))
def m_ (d c:List cI):Int×(List de)->Option (((Int×List de) ⊕ (Bool×List de×Bool×List cI×List cI))):=λ(a,b)=>(bif (decide (a<(c.length:Int))) then (bif ((decide ((0:Int)<=a))&&(decide (a<(c.length:Int)))) then (bif (decide ((b++([(de.mk (ix c a).Task (ix c a).Case 0 false false)]:List de)).length*32<=140737488355328)) then (some (Sum.inl ((i64.wrap (a+1)),(b++([(de.mk (ix c a).Task (ix c a).Case 0 false false)]:List de))))) else none) else none) else (Option.map Sum.inr (dH (m9 d) (0,b))))
def rr (a:Bool) (b c:List cI):Option (Bool×List de×Bool×List cI×List cI):=(bif a then (some (true,[],a,b,c)) else (dH (m_ b c) (0,[])))
def oF (p:cR):Option (Int×Bool×Bool×Bool×cD×List Int×List cI×List cI×List de):=((oT p).bind λc=>(bif (c.Code != 0) then (some (0,false,false,false,c,[],[],[],[])) else ((oD p).bind λb=>((rr p.Closed b.2.1 b.2.2).bind λa=>(some (p.Cap,a.2.2.1,true,a.1,(cD.mk 0 0),b.1,a.2.2.2.1,a.2.2.2.2,a.2.1))))))
def d6 (a:Int) (c:List cz) (b:List Int) (e:List cr) (d:List bV) (f:List cR):Option (Bool×Int×List cz×List Int×List cr×List bV×List cR):=(some (true,a,c,b,e,d,f))
def fc (k t:Int) (j:dg) (b:List dg) (m:List cR) (a:Int) (l:List cr) (g:List bV) (h:List cR) (e:lp) (i:List cz) (f:List Int):Option (Bool×Int×List cz×List Int×List cr×List bV×List cR):=(bif (decide (0<=k/\k<(g.length:Int))) then ((gE t j e.Value e.Ok i l).bind λd=>(bif (decide ((0:Int)<(((ix m j.B).Items.length:Nat):Int))) then ((dG k j.B e.Wakes b a d.1 d.2 g f).bind λc=>(bif (decide (0<=k/\k<(c.2.2.2.2.length:Int))) then (d6 c.1 c.2.1 c.2.2.1 c.2.2.2.1 c.2.2.2.2 h) else none)) else (d6 a d.1 f d.2 g h))) else none)
def eD (n t:Int) (c:dg) (d:List dg) (a:Int) (q:List cz) (m:List cr) (p:List bV) (s:List Int) (k:List cR):Option (Bool×Int×List cz×List Int×List cr×List bV×List cR):=(bif (decide (0<=n/\n<(p.length:Int))) then ((dL t m).bind λj=>(bif (decide (0<=j/\j<(m.length:Int))) then (bif (c.Op==14) then (bif ((decide ((0:Int)<=c.A))&&(decide (c.A<(k.length:Int)))) then (bif ((decide ((0:Int)<=c.B))&&(decide (c.B<((8:Nat):Int)))) then ((mG (ix k c.A) t ((ix m j).r.get c.B) false).bind λe=>(bif ((decide ((0:Int)<=c.A))&&(decide (c.A<(k.length:Int)))) then ((λz1:List cR=>(bif e.2.2.2.1 then ((dI t c.A q).bind λu=>(some (false,2,u,s,m,p,z1))) else (bif (!e.2.2.1) then ((f5 t m).bind λl=>(bif (decide (0<=j/\j<(l.2.length:Int))) then (some (l.1,a,q,s,l.2,p,z1)) else none)) else ((dq t c.Op c.A ((ix m j).r.get c.B) q).bind λw=>((dG n c.A e.2.2.2.2.2.2.2.2.2 d a w m p s).bind λg=>(bif (decide (0<=n/\n<(g.2.2.2.2.length:Int))) then (d6 g.1 g.2.1 g.2.2.1 g.2.2.2.1 g.2.2.2.2 z1) else none)))))) (k.set c.A.toNat ((cR.mk e.1 e.2.2.2.2.2.2.1 e.2.1 e.2.2.2.2.2.2.2.1 e.2.2.2.2.2.2.2.2.1):cR))) else none)) else none) else none) else (bif (c.Op==15) then (bif ((decide ((0:Int)<=c.B))&&(decide (c.B<(k.length:Int)))) then (bif ((decide ((0:Int)<=c.B))&&(decide (c.B<(k.length:Int)))) then ((lX (ix k c.B) t false).bind λb=>(bif ((decide ((0:Int)<=c.B))&&(decide (c.B<(k.length:Int)))) then ((λz0:List cR=>(bif (!b.2.2.1) then ((f5 t m).bind λo=>(some (o.1,a,q,s,o.2,p,z0))) else (bif (!(decide ((0:Int)<(((ix k c.B).Items.length:Nat):Int)))) then ((dG n c.B b.2.2.2.2.2.2.2.2.2.2 d a q m p s).bind λh=>(bif (decide (0<=n/\n<(h.2.2.2.2.length:Int))) then (fc n t c d k h.1 h.2.2.2.1 h.2.2.2.2 z0 (lp.mk b.2.2.1 false b.2.2.2.1 b.2.2.2.2.1 b.2.2.2.2.2.1 b.2.2.2.2.2.2.2.2.2.2) h.2.1 h.2.2.1) else none)) else (fc n t c d k a m p z0 (lp.mk b.2.2.1 false b.2.2.2.1 b.2.2.2.2.1 b.2.2.2.2.2.1 b.2.2.2.2.2.2.2.2.2.2) q s)))) (k.set c.B.toNat ((cR.mk b.1 b.2.2.2.2.2.2.2.1 b.2.1 b.2.2.2.2.2.2.2.2.1 b.2.2.2.2.2.2.2.2.2.1):cR))) else none)) else none) else none) else (bif (c.Op==16) then (bif ((decide ((0:Int)<=c.A))&&(decide (c.A<(k.length:Int)))) then ((oF (ix k c.A)).bind λf=>(bif ((decide ((0:Int)<=c.A))&&(decide (c.A<(k.length:Int)))) then ((λz2:List cR=>(bif f.2.2.2.1 then ((dI t c.A q).bind λv=>(some (false,2,v,s,m,p,z2))) else ((dq t c.Op c.A 0 q).bind λx=>((dG n c.A f.2.2.2.2.2.2.2.2 d a x m p s).bind λi=>(bif (decide (0<=n/\n<(i.2.2.2.2.length:Int))) then (d6 i.1 i.2.1 i.2.2.1 i.2.2.2.1 i.2.2.2.2 z2) else none))))) (k.set c.A.toNat ((cR.mk f.1 f.2.2.2.2.2.1 f.2.1 f.2.2.2.2.2.2.1 f.2.2.2.2.2.2.2.1):cR))) else none)) else none) else (d6 a q s m p k)))) else none)) else none)
def jW (a b:Int):Option (cD):=(some ((cD.mk a b)))
def nQ (l:dh):Int×(List (Int×Int))->Option (((Int×(List (Int×Int))) ⊕ (cD))):=λ(a,b)=>(bif (decide (a<(l.Line.length:Int))) then (bif ((decide ((0:Int)<=a))&&(decide (a<(l.Line.length:Int)))) then (bif (decide ((ix l.Line a).Task<1)) then ((jW 3 (i64.wrap (a+1))).bind λc=>(Option.map Sum.inr (some (c)))) else (bif (decide ((0:Int)<(fW b (ix l.Line a).Task))) then ((jW 10 (i64.wrap (a+1))).bind λd=>(Option.map Sum.inr (some (d)))) else (bif ((ix l.Line a).N != 0) then ((jW 5 (i64.wrap (a+1))).bind λe=>(Option.map Sum.inr (some (e)))) else (some (Sum.inl ((i64.wrap (a+1)),(iv b (ix l.Line a).Task 1))))))) else none) else (Option.map Sum.inr (some ((cD.mk 0 0)))))
def oV (l:dh):Option (cD):=(bif (decide ((5000:Int)<(l.Line.length:Int))) then ((jW 2 0).bind λa=>(some (a))) else (bif ((decide (l.Readers<0))||(decide ((1000000000:Int)<l.Readers))) then ((jW 3 0).bind λc=>(some (c))) else (bif ((!((((l.Writer&&(!(decide ((0:Int)<l.Readers))))&&(decide ((0:Int)<(l.Line.length:Int))))&&(!l.Writer))&&(!(l.Readers==0))))||(decide ((0:Int)<(l.Line.length:Int)))) then (bif ((!((((!l.Writer)&&(decide ((0:Int)<(l.Line.length:Int))))&&(!l.Writer))&&(!(l.Readers==0))))||(decide ((0:Int)<(l.Line.length:Int)))) then (bif (bif l.Writer then ((decide ((0:Int)<l.Readers))||((decide ((0:Int)<(l.Line.length:Int)))&&((!l.Writer)&&((l.Readers==0)||(!(ix l.Line (0:Int)).Write))))) else ((decide ((0:Int)<(l.Line.length:Int)))&&((!l.Writer)&&((l.Readers==0)||(!(ix l.Line (0:Int)).Write))))) then ((jW 5 0).bind λb=>(some (b))) else (dH (nQ l) (0,[]))) else none) else none)))
def qr (w:dS) (a:Int):Option (Bool):=(some ((w.Task==a)))
def iC (s:List dS) (f:Int):Int->Option (((Int) ⊕ (Int))):=λa=>(bif (decide (a<(s.length:Int))) then (bif ((decide ((0:Int)<=a))&&(decide (a<(s.length:Int)))) then ((qr (ix s a) f).bind λb=>(bif b then (Option.map Sum.inr (some (a))) else (some (Sum.inl ((i64.wrap (a+1))))))) else none) else (Option.map Sum.inr (some ((-1)))))
def k8 (s:List dS) (f:Int):Option (Int):=(dH (iC s f) (0))
def iD (s:List dS) (f:Int):Option (Bool):=((k8 s f).bind λa=>(some ((decide ((0:Int)<=a)))))
def mZ (s:List dS):Option ((List dS)):=(bif (decide ((([]:List dS)++s).length*24<=140737488355328)) then (some ((([]:List dS)++s))) else none)
def lI (l:dh):Option ((List dS)):=((mZ l.Line).bind λa=>(some (a)))
def od (c:List Int) (a:Int) (b:Bool) (d:List dS):Option ((List Int)×Int×Bool×List dS):=(some (c,a,b,d))
def jX:Int×Bool×List Int×(List dS)->Option (((Int×Bool×List Int×List dS) ⊕ ((List Int)×Int×Bool×List dS))):=λ(b,c,d,a)=>(bif ((decide ((0:Int)<(a.length:Int)))&&(!c)) then (bif (decide ((0:Int)<(a.length:Int))) then (bif ((ix a (0:Int)).Write&&(decide ((0:Int)<b))) then (Option.map Sum.inr (od d b c a)) else (bif (decide ((1:Int)<=(a.length:Int))) then (bif (decide ((d++([(ix a (0:Int)).Task]:List Int)).length*8<=140737488355328)) then (bif (!(ix a (0:Int)).Write) then (some (Sum.inl ((i64.wrap (b+1)),(ix a (0:Int)).Write,(d++([(ix a (0:Int)).Task]:List Int)),(cut a (1:Int) (a.length:Int))))) else (some (Sum.inl (b,(ix a (0:Int)).Write,(d++([(ix a (0:Int)).Task]:List Int)),(cut a (1:Int) (a.length:Int)))))) else none) else none)) else none) else (Option.map Sum.inr (od d b c a)))
def kR (a:Int) (b:Bool) (c:List dS):Option ((List Int)×Int×Bool×List dS):=(dH jX (a,b,[],c))
def mH (l:dh) (b:Int) (d m:Bool):Option (Int×Bool×Bool×cD×List dS):=((oV l).bind λc=>(bif (c.Code != 0) then (some (0,false,false,c,[])) else (bif (decide (b<1)) then ((jW 3 (-1)).bind λk=>(some (0,false,false,k,[]))) else ((iD l.Line b).bind λf=>(bif f then ((jW 10 (-1)).bind λi=>(some (0,false,false,i,[]))) else (bif (((l.Line.length:Int)==5000)||(l.Readers==1000000000)) then ((jW 9 0).bind λh=>(some (0,false,false,h,[]))) else ((lI l).bind λe=>(bif (decide ((e++([(dS.mk b d 0)]:List dS)).length*24<=140737488355328)) then ((kR l.Readers l.Writer (e++([(dS.mk b d 0)]:List dS))).bind λa=>((ig a.1 b).bind λj=>(bif j then (some (a.2.1,a.2.2.1,true,(cD.mk 0 0),a.2.2.2)) else (bif m then ((lI l).bind λg=>(some (l.Readers,l.Writer,false,(cD.mk 0 0),g))) else (some (a.2.1,a.2.2.1,false,(cD.mk 0 0),a.2.2.2)))))) else none))))))))
def nR (b:Int) (c:Bool) (d:List dS):Option (Int×Bool×Bool×cD×List dS×List Int):=((kR b c d).bind λa=>(some (a.2.1,a.2.2.1,false,(cD.mk 0 0),a.2.2.2,a.1)))
def nG (l:dh) (a:Bool):Option (Int×Bool×Bool×cD×List dS×List Int):=((oV l).bind λc=>(bif (c.Code != 0) then (some (0,false,false,c,[],[])) else (bif (bif a then ((!l.Writer)||((!a)&&(l.Readers==0))) else ((!a)&&(l.Readers==0))) then ((lI l).bind λd=>(some (l.Readers,l.Writer,true,(cD.mk 0 0),d,[]))) else ((lI l).bind λb=>(bif a then (nR l.Readers false b) else (nR (i64.wrap (l.Readers-1)) l.Writer b))))))
def jk (a b:Int):Option (cD):=(some ((cD.mk a b)))
def qs (l:List Int):Int×(List (Int×Int))->Option (((Int×(List (Int×Int))) ⊕ (cD))):=λ(a,b)=>(bif (decide (a<(l.length:Int))) then (bif ((decide ((0:Int)<=a))&&(decide (a<(l.length:Int)))) then (bif (decide ((ix l a)<1)) then ((jk 3 (i64.wrap (a+1))).bind λc=>(Option.map Sum.inr (some (c)))) else (bif (decide ((0:Int)<(fW b (ix l a)))) then ((jk 10 (i64.wrap (a+1))).bind λd=>(Option.map Sum.inr (some (d)))) else (some (Sum.inl ((i64.wrap (a+1)),(iv b (ix l a) 1)))))) else none) else (Option.map Sum.inr (some ((cD.mk 0 0)))))
def rO (l:List Int):Option (cD):=(bif (decide ((5000:Int)<(l.length:Int))) then ((jk 2 0).bind λa=>(some (a))) else (dH (qs l) (0,[])))
def oW (g:cX):Option (cD):=((rO g.Line).bind λa=>(bif (a.Code != 0) then (some (a)) else (bif ((decide (g.Count<0))||(decide ((1000000000:Int)<g.Count))) then ((jk 3 0).bind λb=>(some (b))) else (bif ((g.Count==0)&&(decide ((0:Int)<(g.Line.length:Int)))) then ((jk 5 0).bind λc=>(some (c))) else (some ((cD.mk 0 0)))))))
def nH (g:cX) (n:Int):Option (Int×Bool×cD×List Int×List Int):=((oW g).bind λb=>(bif (b.Code != 0) then (some (0,false,b,[],[])) else (bif ((decide (n<(-1000000000)))||(decide ((1000000000:Int)<n))) then ((jk 3 (-1)).bind λd=>(some (0,false,d,[],[]))) else ((ff g.Line).bind λa=>(bif (decide ((i64.wrap (g.Count+n))<0)) then (some (g.Count,true,(cD.mk 0 0),a,[])) else (bif (decide ((1000000000:Int)<(i64.wrap (g.Count+n)))) then ((jk 9 0).bind λc=>(some (0,false,c,[],[]))) else (bif ((i64.wrap (g.Count+n))==0) then (some (0,false,(cD.mk 0 0),[],a)) else (some ((i64.wrap (g.Count+n)),false,(cD.mk 0 0),a,[])))))))))
def qt (l:List Int) (a:Int):Option (cD):=(bif (decide (a<1)) then ((jk 3 (-1)).bind λb=>(some (b))) else ((ig l a).bind λd=>(bif d then ((jk 10 (-1)).bind λe=>(some (e))) else (bif ((l.length:Int)==5000) then ((jk 9 0).bind λc=>(some (c))) else (some ((cD.mk 0 0)))))))
def mo (g:cX) (a:List Int):Option (Int×Bool×cD×List Int):=(some (g.Count,(g.Count==0),(cD.mk 0 0),a))
def nS (g:cX) (b:Int) (c:cD):Option (Int×Bool×cD×List Int):=(bif (c.Code != 0) then (some (0,false,c,[])) else ((ff g.Line).bind λa=>(bif (decide ((0:Int)<g.Count)) then (bif (decide ((a++([b]:List Int)).length*8<=140737488355328)) then (mo g (a++([b]:List Int))) else none) else (mo g a))))
def nI (g:cX) (a:Int):Option (Int×Bool×cD×List Int):=((oW g).bind λb=>(bif (b.Code==0) then ((qt g.Line a).bind λc=>(nS g a c)) else (nS g a b)))
def fq (a:Int) (g:List cz) (d:List Int) (f:List cr) (e:List bV) (c:List dh) (b:List cX):Option (Bool×Int×List cz×List Int×List cr×List bV×List dh×List cX):=(some (true,a,g,d,f,e,c,b))
def hZ (n:Int) (p:dg) (a:List dg) (e:Int) (o:List cX):Int×Int×List cr×List bV×List dh×List Int×List cz×(List Int)->Option (((Int×Int×List cr×List bV×List dh×List Int×List cz×List Int) ⊕ (Bool×Int×List cz×List Int×List cr×List bV×List dh×List cX))):=λ(h,b,c,i,k,d,j,l)=>(bif (decide (0<=n/\n<(i.length:Int))) then (bif (decide (b<h)) then (bif ((decide ((0:Int)<=b))&&(decide (b<(d.length:Int)))) then ((dL (ix d b) c).bind λf=>(bif (decide (0<=f/\f<(c.length:Int))) then (bif ((decide ((0:Int)<=(ix c f).pc))&&(decide ((ix c f).pc<(a.length:Int)))) then ((dq (ix d b) 17 p.A (ix a (ix c f).pc).B j).bind λm=>((fX n (ix d b) c i l).bind λg=>(bif (decide (0<=n/\n<(g.2.2.length:Int))) then (some (Sum.inl (h,(i64.wrap (b+1)),g.2.1,g.2.2,k,d,m,g.1))) else none))) else none) else none)) else none) else (Option.map Sum.inr (fq e j l c i k o))) else none)
def h_ (l:Int) (m:dg) (b:Int) (n:List dh):Int×Int×List cr×List bV×List cX×List Int×List cz×(List Int)->Option (((Int×Int×List cr×List bV×List cX×List Int×List cz×List Int) ⊕ (Bool×Int×List cz×List Int×List cr×List bV×List dh×List cX))):=λ(e,a,j,f,i,c,g,h)=>(bif (decide (0<=l/\l<(f.length:Int))) then (bif (decide (a<e)) then (bif ((decide ((0:Int)<=a))&&(decide (a<(c.length:Int)))) then ((dq (ix c a) 20 m.A 0 g).bind λk=>((fX l (ix c a) j f h).bind λd=>(bif (decide (0<=l/\l<(d.2.2.length:Int))) then (some (Sum.inl (e,(i64.wrap (a+1)),d.2.1,d.2.2,i,c,k,d.1))) else none))) else none) else (Option.map Sum.inr (fq b g h j f n i))) else none)
def eV (y t:Int) (b:dg) (h:List dg) (a:Int) (o:List cz) (k:List cr) (n:List bV) (p:List Int) (e:List dh) (d:List cX):Option (Bool×Int×List cz×List Int×List cr×List bV×List dh×List cX):=(bif (decide (0<=y/\y<(n.length:Int))) then ((dL t k).bind λj=>(bif (decide (0<=j/\j<(k.length:Int))) then (bif (b.Op==17) then (bif ((decide ((0:Int)<=b.A))&&(decide (b.A<(e.length:Int)))) then ((mH (ix e b.A) t (b.B==1) false).bind λf=>(bif ((decide ((0:Int)<=b.A))&&(decide (b.A<(e.length:Int)))) then ((λz1:List dh=>(bif (!f.2.2.1) then ((f5 t k).bind λl=>(some (l.1,a,o,p,l.2,n,z1,d))) else ((dq t b.Op b.A b.B o).bind λq=>(fq a q p k n z1 d)))) (e.set b.A.toNat ((dh.mk f.1 f.2.1 f.2.2.2.2):dh))) else none)) else none) else (bif (b.Op==18) then (bif ((decide ((0:Int)<=b.A))&&(decide (b.A<(e.length:Int)))) then ((nG (ix e b.A) (b.B==1)).bind λc=>(bif ((decide ((0:Int)<=b.A))&&(decide (b.A<(e.length:Int)))) then ((λz0:List dh=>(bif c.2.2.1 then ((dI t b.A o).bind λu=>(some (false,2,u,p,k,n,z0,d))) else ((dq t b.Op b.A b.B o).bind λv=>(dH (hZ y b h a d) ((c.2.2.2.2.2.length:Int),0,k,n,z0,c.2.2.2.2.2,v,p))))) (e.set b.A.toNat ((dh.mk c.1 c.2.1 c.2.2.2.2.1):dh))) else none)) else none) else (bif (b.Op==19) then (bif ((decide ((0:Int)<=b.A))&&(decide (b.A<(d.length:Int)))) then (bif ((decide ((0:Int)<=b.B))&&(decide (b.B<((8:Nat):Int)))) then ((nH (ix d b.A) ((ix k j).r.get b.B)).bind λg=>(bif (g.2.1||(g.2.2.1.Code != 0)) then ((dI t b.A o).bind λs=>(some (false,2,s,p,k,n,e,d))) else (bif ((decide ((0:Int)<=b.A))&&(decide (b.A<(d.length:Int)))) then ((dq t b.Op b.A ((ix k j).r.get b.B) o).bind λx=>(dH (h_ y b a e) ((g.2.2.2.2.length:Int),0,k,n,(d.set b.A.toNat ((cX.mk g.1 g.2.2.2.1):cX)),g.2.2.2.2,x,p))) else none))) else none) else none) else (bif (b.Op==20) then (bif ((decide ((0:Int)<=b.A))&&(decide (b.A<(d.length:Int)))) then ((nI (ix d b.A) t).bind λi=>(bif ((decide ((0:Int)<=b.A))&&(decide (b.A<(d.length:Int)))) then (bif (!i.2.1) then ((f5 t k).bind λm=>(some (m.1,a,o,p,m.2,n,e,(d.set b.A.toNat ((cX.mk i.1 i.2.2.2):cX))))) else ((dq t b.Op b.A 0 o).bind λw=>(fq a w p k n e (d.set b.A.toNat ((cX.mk i.1 i.2.2.2):cX))))) else none)) else none) else (fq a o p k n e d))))) else none)) else none)
def eS (a b:Int) (j:List cR) (i:List dh) (h:List cX) (e:List cz) (d:List cr) (c g:List Int) (f:List bV):Option (Bool×Int×Int×List cz×List cr×List Int×List Int×List bV×List cR×List dh×List cX):=(some (true,a,b,e,d,c,g,f,j,i,h))
def jv (b:Int) (h:List Int) (j:List bV) (i:List Int) (g:List cR) (f:List dh) (e:List cX) (a:Int) (c:List cz) (d:List cr):Option (Bool×Int×Int×List cz×List cr×List Int×List Int×List bV×List cR×List dh×List cX):=(some (false,a,b,c,d,i,h,j,g,f,e))
def ew (m t:Int) (i:dg) (g:List dg) (d c e:Int) (u:List cz) (s:List Int) (b:List cr) (o:List bV) (v:List Int) (q:List cR) (k:List dh) (j:List cX) (a:Int) (l:Bool):Option (Bool×Int×Int×List cz×List cr×List Int×List Int×List bV×List cR×List dh×List cX):=(bif (decide (0<=m/\m<(o.length:Int))) then (bif (decide (0<=a/\a<(b.length:Int))) then (bif l then ((eV m t i g d u b o v k j).bind λf=>(bif (decide (0<=m/\m<(f.2.2.2.2.2.1.length:Int))) then (bif (decide (0<=a/\a<(f.2.2.2.2.1.length:Int))) then (some (f.1,f.2.1,e,f.2.2.1,f.2.2.2.2.1,f.2.2.2.1,s,f.2.2.2.2.2.1,q,f.2.2.2.2.2.2.1,f.2.2.2.2.2.2.2)) else none) else none)) else (bif (i.Op==21) then (bif ((decide ((0:Int)<=i.A))&&(decide (i.A<((8:Nat):Int)))) then (bif (decide ((1000000000:Int)<((ix b a).r.get i.A))) then ((dI t 0 u).bind λp=>(some (false,2,e,p,b,v,s,o,q,k,j))) else (bif (decide (((ix b a).r.get i.A)<1)) then ((iZ m t b o v).bind λh=>(bif (decide (0<=m/\m<(h.2.2.2.length:Int))) then (bif (decide (0<=a/\a<(h.2.2.1.length:Int))) then (some (h.1,d,e,u,h.2.2.1,h.2.1,s,h.2.2.2,q,k,j)) else none) else none)) else ((λz0:List cr=>((λz1:List cr=>((λz2:List cr=>(some (false,d,(i64.wrap (e+1)),u,(z2.set a.toNat ((cr.mk (ix z2 a).pc (ix z2 a).r (ix z2 a).state (ix z2 a).when (i64.wrap (e+1))):cr)),v,s,o,q,k,j))) (z1.set a.toNat ((cr.mk (ix z1 a).pc (ix z1 a).r (ix z1 a).state (i64.wrap (c+((ix b a).r.get i.A))) (ix z1 a).seq):cr)))) (z0.set a.toNat ((cr.mk (ix z0 a).pc (ix z0 a).r 2 (ix z0 a).when (ix z0 a).seq):cr)))) (b.set a.toNat ((cr.mk (i64.wrap ((ix b a).pc+1)) (ix b a).r (ix b a).state (ix b a).when (ix b a).seq):cr))))) else none) else (bif (i.Op==22) then ((dI t 0 u).bind λn=>(some (false,2,e,n,b,v,s,o,q,k,j))) else (eS d e q k j u b v s o)))) else none) else none)
def fD (k t:Int) (f:dg) (a:List dg) (b c d:Int) (q:List cz) (o:List Int) (l:List cr) (m:List bV) (p:List Int) (n:List cR) (i:List dh) (h:List cX) (g:Int) (j:Bool):Option (Bool×Int×Int×List cz×List cr×List Int×List Int×List bV×List cR×List dh×List cX):=(bif (decide (0<=k/\k<(m.length:Int))) then (bif (decide (0<=g/\g<(l.length:Int))) then (bif j then ((eD k t f a b q l m p n).bind λe=>(bif (decide (0<=k/\k<(e.2.2.2.2.2.1.length:Int))) then (bif (decide (0<=g/\g<(e.2.2.2.2.1.length:Int))) then (some (e.1,e.2.1,d,e.2.2.1,e.2.2.2.2.1,e.2.2.2.1,o,e.2.2.2.2.2.1,e.2.2.2.2.2.2,i,h)) else none) else none)) else (bif (f.Op==17) then (ew k t f a b c d q o l m p n i h g (f.Op==17)) else (bif (f.Op==18) then (ew k t f a b c d q o l m p n i h g (f.Op==18)) else (bif (f.Op==19) then (ew k t f a b c d q o l m p n i h g (f.Op==19)) else (ew k t f a b c d q o l m p n i h g (f.Op==20)))))) else none) else none)
def dC (q t:Int) (c:dg) (e:List dg) (b f d:Int) (s:List cz) (l:List Int) (g:List cr) (m:List bV) (p:List Int) (n:List cR) (j:List dh) (i:List cX):Option (Bool×Int×Int×List cz×List cr×List Int×List Int×List bV×List cR×List dh×List cX):=(bif (decide (0<=q/\q<(m.length:Int))) then ((dL t g).bind λa=>(bif (decide (0<=a/\a<(g.length:Int))) then (bif (c.Op==8) then (bif ((decide ((0:Int)<=c.A))&&(decide (c.A<((8:Nat):Int)))) then ((dq t c.Op 0 ((ix g a).r.get c.A) s).bind λu=>(eS b d n j i u g p l m)) else none) else (bif (c.Op==9) then ((dq t c.Op 0 0 s).bind λo=>((λz1:List cr=>(bif (t==1) then (jv d l m p n j i 1 o z1) else (jv d l m p n j i b o z1))) (g.set a.toNat ((cr.mk (ix g a).pc (ix g a).r 3 (ix g a).when (ix g a).seq):cr)))) else (bif (c.Op==10) then ((iZ q t g m p).bind λh=>(bif (decide (0<=q/\q<(h.2.2.2.length:Int))) then (bif (decide (0<=a/\a<(h.2.2.1.length:Int))) then (some (h.1,b,d,s,h.2.2.1,h.2.1,l,h.2.2.2,n,j,i)) else none) else none)) else (bif (c.Op==11) then (bif ((g.length:Int)==64) then (some (false,4,d,s,g,p,l,m,n,j,i)) else (bif ((decide ((0:Int)<=c.B))&&(decide (c.B<((8:Nat):Int)))) then (bif (decide ((g++[((cr.mk c.A ((default:(dn 8)).set (0:Int) ((ix g a).r.get c.B)) 0 0 0):cr)]).length*8<=140737488355328)) then ((dq t c.Op 0 (((g++[((cr.mk c.A ((default:(dn 8)).set (0:Int) ((ix g a).r.get c.B)) 0 0 0):cr)]).length:Nat):Int) s).bind λv=>((i5 q (((g++[((cr.mk c.A ((default:(dn 8)).set (0:Int) ((ix g a).r.get c.B)) 0 0 0):cr)]).length:Nat):Int) (g++[((cr.mk c.A ((default:(dn 8)).set (0:Int) ((ix g a).r.get c.B)) 0 0 0):cr)]) m p).bind λk=>(bif (decide (0<=q/\q<(k.2.2.length:Int))) then (eS b d n j i v k.2.1 k.1 l k.2.2) else none))) else none) else none)) else (bif (c.Op==12) then (bif ((decide ((0:Int)<=c.B))&&(decide (c.B<(l.length:Int)))) then (bif ((decide ((0:Int)<=c.A))&&(decide (c.A<((8:Nat):Int)))) then ((λz0:List cr=>((dq t c.Op c.B ((ix z0 a).r.get c.A) s).bind λw=>(eS b d n j i w z0 p l m))) (g.set a.toNat ((cr.mk (ix g a).pc ((ix g a).r.set c.A (ix l c.B)) (ix g a).state (ix g a).when (ix g a).seq):cr))) else none) else none) else (bif (c.Op==13) then (bif ((decide ((0:Int)<=c.B))&&(decide (c.B<((8:Nat):Int)))) then (bif ((decide ((0:Int)<=c.A))&&(decide (c.A<(l.length:Int)))) then ((dq t c.Op c.A ((ix g a).r.get c.B) s).bind λx=>(eS b d n j i x g p (l.set c.A.toNat ((ix g a).r.get c.B)) m)) else none) else none) else (bif (c.Op==14) then (fD q t c e b f d s l g m p n j i a (c.Op==14)) else (bif (c.Op==15) then (fD q t c e b f d s l g m p n j i a (c.Op==15)) else (fD q t c e b f d s l g m p n j i a (c.Op==16)))))))))) else none)) else none)
def eu (p:Int) (e:List dg) (s:List cz) (c f g:Int) (q:List Int) (l:List cr) (o:List cR) (n:List dh) (m:List cX) (h:List bV) (j:List Int) (b:Int) (i:dg):Option (Int×Int×List cz×List cr×List Int×List Int×List bV×List cR×List dh×List cX):=(bif (decide (0<=p/\p<(h.length:Int))) then (bif (decide (0<=b/\b<(l.length:Int))) then ((oS i.Op).bind λk=>(bif k then ((mn i (ix l b).pc b l).bind λd=>(bif (decide (d.2.length=l.length)) then (bif (decide (0<=b/\b<(d.2.length:Int))) then (some (c,g,s,(d.2.set b.toNat ((cr.mk d.1 (ix d.2 b).r (ix d.2 b).state (ix d.2 b).when (ix d.2 b).seq):cr)),j,q,h,o,n,m)) else none) else none)) else ((dC p (ix h p).now i e c f g s q l h j o n m).bind λa=>(bif (decide (0<=p/\p<(a.2.2.2.2.2.2.2.1.length:Int))) then (bif (decide (0<=b/\b<(a.2.2.2.2.1.length:Int))) then (bif a.1 then (some (a.2.1,a.2.2.1,a.2.2.2.1,(a.2.2.2.2.1.set b.toNat ((cr.mk (i64.wrap ((ix a.2.2.2.2.1 b).pc+1)) (ix a.2.2.2.2.1 b).r (ix a.2.2.2.2.1 b).state (ix a.2.2.2.2.1 b).when (ix a.2.2.2.2.1 b).seq):cr)),a.2.2.2.2.2.1,a.2.2.2.2.2.2.1,a.2.2.2.2.2.2.2.1,a.2.2.2.2.2.2.2.2.1,a.2.2.2.2.2.2.2.2.2.1,a.2.2.2.2.2.2.2.2.2.2)) else (bif (((ix a.2.2.2.2.2.2.2.1 p).now==(ix h p).now)&&((ix a.2.2.2.2.1 b).state != 0)) then (some (a.2.1,a.2.2.1,a.2.2.2.1,a.2.2.2.2.1,a.2.2.2.2.2.1,a.2.2.2.2.2.2.1,(a.2.2.2.2.2.2.2.1.set p.toNat ((bV.mk 0 (ix a.2.2.2.2.2.2.2.1 p).Ring_Next (ix a.2.2.2.2.2.2.2.1 p).Ring_List):bV)),a.2.2.2.2.2.2.2.2.1,a.2.2.2.2.2.2.2.2.2.1,a.2.2.2.2.2.2.2.2.2.2)) else (some (a.2.1,a.2.2.1,a.2.2.2.1,a.2.2.2.2.1,a.2.2.2.2.2.1,a.2.2.2.2.2.2.1,a.2.2.2.2.2.2.2.1,a.2.2.2.2.2.2.2.2.1,a.2.2.2.2.2.2.2.2.2.1,a.2.2.2.2.2.2.2.2.2.2)))) else none) else none)))) else none) else none)
def ga (p:Int) (a:List dg) (n:List cz) (b d e:Int) (m:List Int) (h:List cr) (l:List cR) (k:List dh) (i:List cX) (j:Bool) (f:List bV) (g:List Int):Option (Int×Int×List cz×List cr×List Int×List Int×List bV×List cR×List dh×List cX):=(bif (decide (0<=p/\p<(f.length:Int))) then (bif j then (some (b,e,n,h,g,m,f,l,k,i)) else ((dL (ix f p).now h).bind λc=>(bif (decide (0<=c/\c<(h.length:Int))) then (bif (decide ((ix h c).pc<(a.length:Int))) then (bif ((decide ((0:Int)<=(ix h c).pc))&&(decide ((ix h c).pc<(a.length:Int)))) then (eu p a n b d e m h l k i f g c (ix a (ix h c).pc)) else none) else (eu p a n b d e m h l k i f g c (dg.mk 9 0 0))) else none))) else none)
def gp (p:Int) (b:List dg) (g:Int) (h:List Int) (i f:Int) (q:List cz) (a j c:Int) (t:List Int) (d:Int) (o:List Int) (r:List cr) (m:List bV) (s:List Int) (n:List cR) (l:List dh) (k:List cX):Option (Int×Int×List cz×List cr×List Int×List Int×List bV×List cR×List dh×List cX):=(bif ((decide ((0:Int)<=p))&&(decide (p<(m.length:Int)))) then (bif ((ix m p).now==0) then ((gm p m s).bind λe=>(bif (decide (0<=p/\p<(e.2.2.length:Int))) then (ga p b q a c d o r n l k (!e.1) e.2.2 e.2.1) else none)) else (ga p b q a c d o r n l k false m s)) else none)
def iO (a:Int) (b:List cr):Option (Bool):=(bif (decide (0<=a/\a<(b.length:Int))) then (some ((((ix b a).state==0)||((ix b a).state==2)))) else none)
def gc (c:List cr):Int->Option (((Int) ⊕ (Int))):=λa=>(bif (decide (a<(c.length:Int))) then (bif ((decide ((0:Int)<=a))&&(decide (a<(c.length:Int)))) then ((iO a c).bind λb=>(bif b then (Option.map Sum.inr (some (a))) else (some (Sum.inl ((i64.wrap (a+1))))))) else none) else (Option.map Sum.inr (some ((-1)))))
def kf (a:List cr):Option (Int):=(dH (gc a) (0))
def jl (b:List cr):Option (Bool):=((kf b).bind λa=>(some ((decide ((0:Int)<=a)))))
def jx (b:List cr):Option (Bool):=((jl b).bind λa=>(some ((!a))))
def nT (b c d:Int) (h:List cz) (g:List Int) (e:List cr):Int×(List Int)->Option (((Int×List Int) ⊕ (Int×Int×Int×cD×List cz×List Int×List Int))):=λ(a,f)=>(bif (decide (a<(e.length:Int))) then (bif ((decide ((0:Int)<=a))&&(decide (a<(e.length:Int)))) then (bif (decide ((f++([(ix e a).state]:List Int)).length*8<=140737488355328)) then (some (Sum.inl ((i64.wrap (a+1)),(f++([(ix e a).state]:List Int))))) else none) else none) else (Option.map Sum.inr (some (b,c,d,(cD.mk 0 0),h,f,g))))
def mq (a b c:Int) (f:List cz) (e d:List Int) (g:List cr):Option (Int×Int×Int×cD×List cz×List Int×List Int):=(dH (nT a b c f d g) (0,e))
def mr (i b:Int) (g:List Int) (a c d:Int) (k:List cz) (j:List Int) (m:List cr) (l:List bV) (h:List Int) (n:List cR) (f:List dh) (e:List cX):Option (((Int×Int×Int×Int×Int×List cz×List Int×List Int×List cr×List bV×List Int×List cR×List dh×List cX) ⊕ (Int×Int×Int×cD×List cz×List Int×List Int))):=(some (Sum.inl ((i64.wrap (i+1)),a,(i64.wrap (b+1)),c,d,k,g,j,m,l,h,n,f,e)))
def mw (h a:Int) (g:List Int) (c b d:Int) (n:List cz) (l:List Int) (j:List cr) (m:List bV) (k:List Int) (i:List cR) (f:List dh) (e:List cX) (o:Bool):Option (((Int×Int×Int×Int×Int×List cz×List Int×List Int×List cr×List bV×List Int×List cR×List dh×List cX) ⊕ (Int×Int×Int×cD×List cz×List Int×List Int))):=(bif o then (mr h a g 3 b d n l j m k i f e) else (mr h a g c b d n l j m k i f e))
def my (i b:Int) (h:List Int) (a c d:Int) (n:List cz) (l:List Int) (e:List cr) (m:List bV) (k:List Int) (j:List cR) (g:List dh) (f:List cX):Option (((Int×Int×Int×Int×Int×List cz×List Int×List Int×List cr×List bV×List Int×List cR×List dh×List cX) ⊕ (Int×Int×Int×cD×List cz×List Int×List Int))):=(bif (a==0) then ((jx e).bind λo=>(mw i b h a c d n l e m k j g f o)) else (mw i b h a c d n l e m k j g f false))
def iF (p:cy) (g:List Int):Int×Int×Int×Int×Int×List cz×List Int×List Int×List cr×List bV×List Int×List cR×List dh×(List cX)->Option (((Int×Int×Int×Int×Int×List cz×List Int×List Int×List cr×List bV×List Int×List cR×List dh×List cX) ⊕ (Int×Int×Int×cD×List cz×List Int×List Int))):=λ(e,a,b,c,f,i,h,j,k,r,q,o,m,n)=>(bif (decide (e<(g.length:Int))) then (bif ((decide ((0:Int)<=e))&&(decide (e<(g.length:Int)))) then (bif (a != 0) then (Option.map Sum.inr (mq a b c i h j k)) else (bif (decide ((ix g e)<0)) then ((jV c k q).bind λl=>(my e b h a l.1 f i j l.2.2 r l.2.1 o m n)) else ((gp (ix g e) p.Code p.Cells p.Pipes p.Locks p.Groups i a (i64.wrap (b+1)) c h f j k r q o m n).bind λd=>(my e b h d.1 c d.2.1 d.2.2.1 d.2.2.2.2.2.1 d.2.2.2.1 d.2.2.2.2.2.2.1 d.2.2.2.2.1 d.2.2.2.2.2.2.2.1 d.2.2.2.2.2.2.2.2.1 d.2.2.2.2.2.2.2.2.2)))) else none) else (Option.map Sum.inr (mq a b c i h j k)))
def nU (p:cy) (d:Int) (c:List Int):Int->Option (((Int) ⊕ (Int×Int×Int×cD×List cz×List Int×List Int))):=λa=>(bif (decide (a<(c.length:Int))) then (bif ((decide ((0:Int)<=a))&&(decide (a<(c.length:Int)))) then (bif ((decide ((ix c a)<(-1)))||(decide (d<=(ix c a)))) then ((pm 3 a).bind λe=>(Option.map Sum.inr (some (0,0,0,e,[],[],[])))) else (some (Sum.inl ((i64.wrap (a+1)))))) else none) else (Option.map Sum.inr ((lW p d).bind λb=>(dH (iF p c) (0,0,0,0,0,[],[],b.1,b.2.1,b.2.2.1,b.2.2.2.1,b.2.2.2.2.1,b.2.2.2.2.2.1,b.2.2.2.2.2.2)))))
def mI (p:cy) (a:Int) (b:List Int):Option (Int×Int×Int×cD×List cz×List Int×List Int):=((qn p).bind λc=>(bif (c.Code != 0) then (some (0,0,0,c,[],[],[])) else (bif ((decide (a<1))||(decide ((16:Int)<a))) then ((pm 3 (-1)).bind λe=>(some (0,0,0,e,[],[],[]))) else (bif (decide ((5000:Int)<(b.length:Int))) then ((pm 2 (-1)).bind λd=>(some (0,0,0,d,[],[],[]))) else (dH (nU p a b) (0))))))
def kH:Option (Bool):=((mI (cy.mk ([(dg.mk 15 0 0)]:List dg) 0 ([0]:List Int) 0 0) 1 ([0,0]:List Int)).bind λa=>(some (((a.2.2.2.1.Code==0)&&((a.1==3)&&((a.2.1==1)&&((a.2.2.2.2.1.length:Int)==0)))))))
def kg (p:cy):Option (Bool):=(some (((decide ((2000:Int)<(p.Code.length:Int)))||(decide ((2000:Int)<(p.Pipes.length:Int))))))
def gH (a b:Int):Option (cD):=(some ((cD.mk a b)))
def fg (x a:Int):Option (Bool):=(some (((decide ((0:Int)<=x))&&(decide (x<a)))))
def f8 (p:cy) (k x:Int):Option (Bool):=(bif (k==110) then (some (true)) else (bif (k==114) then (fg x 8) else (bif (k==99) then (fg x (p.Code.length:Int)) else (bif (k==109) then (fg x p.Cells) else (bif (k==112) then (fg x (p.Pipes.length:Int)) else (bif (k==108) then (fg x p.Locks) else (bif (k==103) then (fg x p.Groups) else (bif (k==107) then (fg x 2) else (fg x 1)))))))))
def fB (c:Int) (a:Bool):Option (((Int) ⊕ (cD))):=(bif a then ((gH 5 c).bind λb=>(Option.map Sum.inr (some (b)))) else (some (Sum.inl ((i64.wrap (c+1))))))
def dY (p:cy):Int->Option (((Int) ⊕ (cD))):=λa=>(bif (decide (a<(p.Code.length:Int))) then (bif ((decide ((0:Int)<=a))&&(decide (a<(p.Code.length:Int)))) then (bif ((decide ((ix p.Code a).Op<1))||(decide ((22:Int)<(ix p.Code a).Op))) then ((gH 4 a).bind λd=>(Option.map Sum.inr (some (d)))) else (bif ((decide ((0:Int)<=(ix p.Code a).Op))&&(decide ((ix p.Code a).Op<(fZ.length:Int)))) then (bif (decide ((0:Int)<((((ix fZ (ix p.Code a).Op)).size:Nat):Int))) then ((f8 p ((((ix fZ (ix p.Code a).Op)).data.getD ((0:Int)).toNat 0).toNat:Int) (ix p.Code a).A).bind λb=>(bif (!b) then (fB a true) else (bif ((decide ((0:Int)<=(ix p.Code a).Op))&&(decide ((ix p.Code a).Op<(fZ.length:Int)))) then (bif (decide ((1:Int)<((((ix fZ (ix p.Code a).Op)).size:Nat):Int))) then ((f8 p ((((ix fZ (ix p.Code a).Op)).data.getD ((1:Int)).toNat 0).toNat:Int) (ix p.Code a).B).bind λc=>(fB a (!c))) else none) else none))) else none) else none)) else none) else (Option.map Sum.inr (some ((cD.mk 0 0)))))
def f7 (p:cy):Int->Option (((Int) ⊕ (cD))):=λa=>(bif (decide (a<(p.Pipes.length:Int))) then (bif ((decide ((0:Int)<=a))&&(decide (a<(p.Pipes.length:Int)))) then (bif ((!(!(decide ((ix p.Pipes a)<0))))||((decide ((0:Int)<=a))&&(decide (a<(p.Pipes.length:Int))))) then (bif ((decide ((ix p.Pipes a)<0))||(decide ((100:Int)<(ix p.Pipes a)))) then ((gH 8 a).bind λb=>(Option.map Sum.inr (some (b)))) else (some (Sum.inl ((i64.wrap (a+1)))))) else none) else none) else (Option.map Sum.inr (dH (dY p) (0))))
def iE (p:cy):Option (cD):=(bif ((decide ((1000:Int)<(p.Code.length:Int)))||(decide ((20:Int)<(p.Pipes.length:Int)))) then ((gH 2 0).bind λb=>(some (b))) else (bif ((decide (p.Cells<0))||((decide ((20:Int)<p.Cells))||((decide (p.Locks<0))||((decide ((20:Int)<p.Locks))||((decide (p.Groups<0))||(decide ((20:Int)<p.Groups))))))) then ((gH 3 0).bind λa=>(some (a))) else (dH (f7 p) (0))))
def jY (b:Int) (a:cD):Option (((Int×cD) ⊕ (cD))):=(some (Sum.inl ((i64.wrap (b+1)),a)))
def jZ (d:Int) (a:List Int):Int×cD->Option (((Int×cD) ⊕ (cD))):=λ(c,b)=>(bif ((decide (c<(a.length:Int)))&&(b.Code==0)) then (bif ((decide ((0:Int)<=c))&&(decide (c<(a.length:Int)))) then (bif ((!(!(decide ((ix a c)<(-1)))))||((decide ((0:Int)<=c))&&(decide (c<(a.length:Int))))) then (bif ((decide ((ix a c)<(-1)))||(decide (d<=(ix a c)))) then ((gH 3 c).bind λe=>(jY c e)) else (jY c b)) else none) else none) else (Option.map Sum.inr (some (b))))
def gL (b:Int) (a:List Int) (c:cD):Option (cD):=(dH (jZ b a) (0,c))
def fV (b:Int) (a:List Int) (c:cD):Option (cD):=(bif ((c.Code==0)&&(decide ((5000:Int)<(a.length:Int)))) then ((gH 2 (-1)).bind λd=>(gL b a d)) else (gL b a c))
def jy (p:cy) (a:Int) (b:List Int):Option (cD):=((iE p).bind λc=>(bif ((c.Code==0)&&((decide (a<1))||(decide ((16:Int)<a)))) then ((gH 3 (-1)).bind λd=>(fV a b d)) else (fV a b c)))
def jz (p:cy) (c:Int) (b:List Int) (d:Bool):Option (Int×Int×Int×Bool×List cz×List Int×List Int):=(bif d then (some (0,0,0,false,[],[],[])) else ((mI p c b).bind λa=>(some (a.1,a.2.1,a.2.2.1,(a.2.2.2.1.Code==0),a.2.2.2.2.1,a.2.2.2.2.2.1,a.2.2.2.2.2.2))))
def iY (p:cy) (b:Int) (a:List Int):Option (Int×Int×Int×Bool×List cz×List Int×List Int):=((kg p).bind λd=>(bif d then (jz p b a true) else (bif (decide ((5000:Int)<(a.length:Int))) then (jz p b a true) else ((jy p b a).bind λc=>(jz p b a (c.Code != 0))))))
def fu (c:jU) (b a:Int):Option (((Int) ⊕ (Bool))):=(bif (decide (a<=(ix c.Trace b).Obj)) then (Option.map Sum.inr (some (false))) else (some (Sum.inl ((i64.wrap (b+1))))))
def ja (p:cy) (b:jU) (c:Int) (a:Bool):Option (((Int) ⊕ (Bool))):=(bif a then (fu b c p.Groups) else (bif ((ix b.Trace c).Op==22) then (fu b c 21) else (fu b c 1)))
def jb (p:cy) (b:jU) (c:Int) (a:Bool):Option (((Int) ⊕ (Bool))):=(bif a then (fu b c p.Locks) else (bif ((ix b.Trace c).Op==19) then (ja p b c ((ix b.Trace c).Op==19)) else (ja p b c ((ix b.Trace c).Op==20))))
def ia (p:cy) (b:jU) (c:Int) (a:Bool):Option (((Int) ⊕ (Bool))):=(bif a then (fu b c (p.Pipes.length:Int)) else (bif ((ix b.Trace c).Op==17) then (jb p b c ((ix b.Trace c).Op==17)) else (jb p b c ((ix b.Trace c).Op==18))))
def jc (p:cy) (a:jU) (c:Int) (b:Bool):Option (((Int) ⊕ (Bool))):=(bif b then (fu a c p.Cells) else (bif ((ix a.Trace c).Op==14) then (ia p a c ((ix a.Trace c).Op==14)) else (bif ((ix a.Trace c).Op==15) then (ia p a c ((ix a.Trace c).Op==15)) else (ia p a c ((ix a.Trace c).Op==16)))))
def ib (p:cy) (b:jU):Int->Option (((Int) ⊕ (Bool))):=λa=>(bif (decide (a<(b.Trace.length:Int))) then (bif ((decide ((0:Int)<=a))&&(decide (a<(b.Trace.length:Int)))) then (bif ((decide ((ix b.Trace a).Op<8))||((decide ((22:Int)<(ix b.Trace a).Op))||((decide ((ix b.Trace a).Task<1))||((decide ((64:Int)<(ix b.Trace a).Task))||((decide ((ix b.Trace a).Obj<0))||(decide ((20:Int)<(ix b.Trace a).Obj))))))) then (Option.map Sum.inr (some (false))) else (bif ((ix b.Trace a).Op==12) then (jc p b a ((ix b.Trace a).Op==12)) else (jc p b a ((ix b.Trace a).Op==13)))) else none) else (Option.map Sum.inr (some (true))))
def kp (p:cy) (a:jU):Option (Bool):=(dH (ib p a) (0))
def gA (i b a c:Int) (e:List cz) (f d g h:List Int):Option (((Int×Int×Int×Int×List Int×List Int×List cz×List Int×List Int) ⊕ (Bool))):=(some (Sum.inl ((i64.wrap (i+1)),b,a,c,g,h,e,f,d)))
def gB (g e d f:Int) (a:List cz) (i h c b:List Int):Option (((Int×Int×Int×Int×List Int×List Int×List cz×List Int×List Int) ⊕ (Bool))):=(bif ((decide ((0:Int)<=(ix a g).Obj))&&(decide ((ix a g).Obj<(c.length:Int)))) then (bif ((decide ((0:Int)<=(ix a g).Obj))&&(decide ((ix a g).Obj<(b.length:Int)))) then (bif ((decide ((ix c (ix a g).Obj)<0))||((decide ((ix b (ix a g).Obj)<0))||((decide ((1:Int)<(ix b (ix a g).Obj)))||((decide ((0:Int)<(ix c (ix a g).Obj)))&&(decide ((0:Int)<(ix b (ix a g).Obj))))))) then (Option.map Sum.inr (some (false))) else (gA g e d f a i h c b)) else none) else none)
def dO (g c b e:Int) (d f:List Int) (a:List cz) (i h:List Int) (j:Int):Option (((Int×Int×Int×Int×List Int×List Int×List cz×List Int×List Int) ⊕ (Bool))):=(bif (j==0) then (gA g c b e a i h d f) else (bif ((ix a g).Value==1) then (bif ((decide ((0:Int)<=(ix a g).Obj))&&(decide ((ix a g).Obj<(f.length:Int)))) then (bif ((decide ((0:Int)<=(ix a g).Obj))&&(decide ((ix a g).Obj<(f.length:Int)))) then (gB g c b e a i h d (f.set (ix a g).Obj.toNat (i64.wrap ((ix f (ix a g).Obj)+j)))) else none) else none) else (bif ((decide ((0:Int)<=(ix a g).Obj))&&(decide ((ix a g).Obj<(d.length:Int)))) then (bif ((decide ((0:Int)<=(ix a g).Obj))&&(decide ((ix a g).Obj<(d.length:Int)))) then (gB g c b e a i h (d.set (ix a g).Obj.toNat (i64.wrap ((ix d (ix a g).Obj)+j))) f) else none) else none)))
def ij (j b a c:Int) (e g:List Int) (d:List cz) (h f:List Int) (i:Int):Option (((Int×Int×Int×Int×List Int×List Int×List cz×List Int×List Int) ⊕ (Bool))):=(bif ((ix d j).Op==18) then (dO j b a c e g d h f (-1)) else (dO j b a c e g d h f i))
def jB:Int×Int×Int×Int×List Int×List Int×List cz×List Int×(List Int)->Option (((Int×Int×Int×Int×List Int×List Int×List cz×List Int×List Int) ⊕ (Bool))):=λ(i,b,a,d,e,g,c,h,f)=>(bif (decide (i<(c.length:Int))) then (bif ((decide ((0:Int)<=i))&&(decide (i<(c.length:Int)))) then (bif ((ix c i).Op==17) then (ij i b a d e g c h f 1) else (ij i b a d e g c h f 0)) else none) else (Option.map Sum.inr (some (true))))
def kI (p:cy) (c:Int) (b:List Int):Option (Bool):=(kH.bind λd=>(bif (!d) then (some (false)) else ((iY p c b).bind λa=>(bif (!a.2.2.2.1) then (some (true)) else ((kp p (jU.mk a.2.2.2.2.1 a.1 a.2.1 a.2.2.1 a.2.2.2.2.2.1 a.2.2.2.2.2.2)).bind λe=>(bif (!e) then (some (false)) else (bif (decide (0<=(21:Int)/\(21:Int)<=4611686018427387904/\(8:Int)*(21:Int)<=140737488355328)) then (bif (decide (0<=(21:Int)/\(21:Int)<=4611686018427387904/\(8:Int)*(21:Int)<=140737488355328)) then (dH jB (0,a.1,a.2.1,a.2.2.1,(List.replicate ((21:Int)).toNat (default:Int)),(List.replicate ((21:Int)).toNat (default:Int)),a.2.2.2.2.1,a.2.2.2.2.2.1,a.2.2.2.2.2.2)) else none) else none)))))))
end
end Go.Proofs.YthcdpjkgdcpkmaaGreatDoor
