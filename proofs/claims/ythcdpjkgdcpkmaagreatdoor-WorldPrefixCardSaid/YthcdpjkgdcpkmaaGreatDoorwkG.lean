/-
 What laws of the chapter wk compute, and lemmas on it.
 No conditions.
-/
import Derived.Test.YthcdpjkgdcpkmaaGreatDoorwkA4
open Go.IntKind (i64)
set_option linter.unusedSimpArgs false
set_option linter.unusedVariables false
set_option linter.unusedSectionVars false
namespace Go.Proofs.YthcdpjkgdcpkmaaGreatDoor
noncomputable section
open Go Go.Sx
structure df where
 Op:Int
 A:Int
 B:Int
 deriving Inhabited,DecidableEq
instance : bZ df:=⟨3,λd=>[.v (.int .i64 d.Op),.v (.int .i64 d.A),.v (.int .i64 d.B)],λ_=>rfl,λ_=>rfl,λ_=>by simp only [iq,SV.st,kP,de]⟩
@[push_cast] theorem Nv (xs:List df):iU (fl xs)=true:=mX (λ_=>rfl) xs
@[push_cast] theorem w5:bZ.sz df=3:=rfl
@[push_cast] theorem Mr (d:df):bZ.cells d=[.v (.int .i64 d.Op),.v (.int .i64 d.A),.v (.int .i64 d.B)]:=rfl
@[push_cast] theorem MU (xs:List df) (x0:Int) (x1:Int) (x2:Int):fl xs++[.v (.int .i64 x0),.v (.int .i64 x1),.v (.int .i64 x2)]=fl (xs++[df.mk x0 x1 x2]):=by rw [fJ];rfl
@[push_cast] theorem Ms (xs:List df) (i:Int):(fl xs).getD (i.toNat*3) (.v (.int .i64 0)) = .v (.int .i64 (ix xs i).Op):=by
 have:=fq xs i 0 (by decide) (.v (.int .i64 0):SV) rfl
 rw [w5,eC] at this
 exact this
@[push_cast] theorem MW (xs:List df) (i:Int):(fl xs).getD (i.toNat*3+1) (.v (.int .i64 0)) = .v (.int .i64 (ix xs i).A):=by
 have:=fq xs i 1 (by decide) (.v (.int .i64 0):SV) rfl
 rw [w5] at this
 exact this
@[push_cast] theorem MX (xs:List df) (i:Int):(fl xs).getD (i.toNat*3+2) (.v (.int .i64 0)) = .v (.int .i64 (ix xs i).B):=by
 have:=fq xs i 2 (by decide) (.v (.int .i64 0):SV) rfl
 rw [w5] at this
 exact this
structure cz where
 Code:(List df)
 Cells:Int
 Pipes:(List Int)
 Locks:Int
 Groups:Int
 deriving Inhabited,DecidableEq
instance : bZ cz:=⟨5,λd=>[.sl d.Code.length (fl d.Code),.v (.int .i64 d.Cells),.sl d.Pipes.length (fl d.Pipes),.v (.int .i64 d.Locks),.v (.int .i64 d.Groups)],λ_=>rfl,λ_=>rfl,λ_=>by simp only [iq,SV.st,kP,de]⟩
@[push_cast] theorem t_:bZ.sz cz=5:=rfl
@[push_cast] theorem Ax (d:cz):bZ.cells d=[.sl d.Code.length (fl d.Code),.v (.int .i64 d.Cells),.sl d.Pipes.length (fl d.Pipes),.v (.int .i64 d.Locks),.v (.int .i64 d.Groups)]:=rfl
@[push_cast] theorem Lr (xs:List cz) (x0:(List df)) (x1:Int) (x2:(List Int)) (x3:Int) (x4:Int):fl xs++[.sl x0.length (fl x0),.v (.int .i64 x1),.sl x2.length (fl x2),.v (.int .i64 x3),.v (.int .i64 x4)]=fl (xs++[cz.mk x0 x1 x2 x3 x4]):=by rw [fJ];rfl
@[push_cast] theorem Ig (xs:List cz) (i:Int):(fl xs).getD (i.toNat*5+1) (.v (.int .i64 0)) = .v (.int .i64 (ix xs i).Cells):=by
 have:=fq xs i 1 (by decide) (.v (.int .i64 0):SV) rfl
 rw [t_] at this
 exact this
@[push_cast] theorem Ih (xs:List cz) (i:Int):(fl xs).getD (i.toNat*5+3) (.v (.int .i64 0)) = .v (.int .i64 (ix xs i).Locks):=by
 have:=fq xs i 3 (by decide) (.v (.int .i64 0):SV) rfl
 rw [t_] at this
 exact this
@[push_cast] theorem HY (xs:List cz) (i:Int):(fl xs).getD (i.toNat*5+4) (.v (.int .i64 0)) = .v (.int .i64 (ix xs i).Groups):=by
 have:=fq xs i 4 (by decide) (.v (.int .i64 0):SV) rfl
 rw [t_] at this
 exact this
structure cE where
 Code:Int
 At:Int
 deriving Inhabited,DecidableEq
instance : bZ cE:=⟨2,λd=>[.v (.int .i64 d.Code),.v (.int .i64 d.At)],λ_=>rfl,λ_=>rfl,λ_=>by simp only [iq,SV.st,kP,de]⟩
@[push_cast] theorem NY (xs:List cE):iU (fl xs)=true:=mX (λ_=>rfl) xs
@[push_cast] theorem Do:bZ.sz cE=2:=rfl
@[push_cast] theorem MY (d:cE):bZ.cells d=[.v (.int .i64 d.Code),.v (.int .i64 d.At)]:=rfl
@[push_cast] theorem Nw (xs:List cE) (x0:Int) (x1:Int):fl xs++[.v (.int .i64 x0),.v (.int .i64 x1)]=fl (xs++[cE.mk x0 x1]):=by rw [fJ];rfl
@[push_cast] theorem Ls (xs:List cE) (i:Int):(fl xs).getD (i.toNat*2) (.v (.int .i64 0)) = .v (.int .i64 (ix xs i).Code):=by
 have:=fq xs i 0 (by decide) (.v (.int .i64 0):SV) rfl
 rw [Do,eC] at this
 exact this
@[push_cast] theorem MZ (xs:List cE) (i:Int):(fl xs).getD (i.toNat*2+1) (.v (.int .i64 0)) = .v (.int .i64 (ix xs i).At):=by
 have:=fq xs i 1 (by decide) (.v (.int .i64 0):SV) rfl
 rw [Do] at this
 exact this
structure kind where
 name:ByteArray
 args:ByteArray
 deriving Inhabited,DecidableEq
instance : bZ kind:=⟨2,λd=>[.v (.string d.name),.v (.string d.args)],λ_=>rfl,λ_=>rfl,λ_=>by simp only [iq,SV.st,kP,de]⟩
@[push_cast] theorem Ot (xs:List kind):iU (fl xs)=true:=mX (λ_=>rfl) xs
@[push_cast] theorem OB:bZ.sz kind=2:=rfl
@[push_cast] theorem Nx (d:kind):bZ.cells d=[.v (.string d.name),.v (.string d.args)]:=rfl
@[push_cast] theorem NZ (xs:List kind) (x0:ByteArray) (x1:ByteArray):fl xs++[.v (.string x0),.v (.string x1)]=fl (xs++[kind.mk x0 x1]):=by rw [fJ];rfl
structure cq where
 pc:Int
 r:dn 8
 state:Int
 when:Int
 seq:Int
 deriving Inhabited,DecidableEq
instance : bZ cq:=⟨12,λd=>((.v (.int .i64 d.pc)::(bZ.cells d.r++(.v (.int .i64 d.state)::(.v (.int .i64 d.when)::(.v (.int .i64 d.seq)::[]))))):List SV),(λ_=>by simp only [KO,gy,List.length_nil]),(λ_=>by simp only [KP,mF,List.all_nil,jl,Value.oneCell',de]),λ_=>by simp only [E_,iq,SV.st,kP,de]⟩
@[push_cast] theorem Ou (xs:List cq):iU (fl xs)=true:=mX (λ_=>rfl) xs
@[push_cast] theorem xt:bZ.sz cq=12:=rfl
@[push_cast] theorem Ny (d:cq):bZ.cells d=((.v (.int .i64 d.pc)::(bZ.cells d.r++(.v (.int .i64 d.state)::(.v (.int .i64 d.when)::(.v (.int .i64 d.seq)::[]))))):List SV):=rfl
@[push_cast] theorem N0 (xs:List cq) (x0:Int) (x1:dn 8) (x9:Int) (x10:Int) (x11:Int):fl xs++((.v (.int .i64 x0)::(bZ.cells x1++(.v (.int .i64 x9)::(.v (.int .i64 x10)::(.v (.int .i64 x11)::[]))))):List SV)=fl (xs++[cq.mk x0 x1 x9 x10 x11]):=by rw [fJ];rfl
@[push_cast] theorem Nz (xs:List cq) (i:Int):(fl xs).getD (i.toNat*12) (.v (.int .i64 0)) = .v (.int .i64 (ix xs i).pc):=by
 have:=fq xs i 0 (by decide) (.v (.int .i64 0):SV) rfl
 rw [xt,eC] at this
 exact this
@[push_cast] theorem Lt (xs:List cq) (i:Int):(fl xs).getD (i.toNat*12+9) (.v (.int .i64 0)) = .v (.int .i64 (ix xs i).state):=by
 have:=fq xs i 9 (by decide) (.v (.int .i64 0):SV) rfl
 rw [xt] at this
 exact this
@[push_cast] theorem Mt (xs:List cq) (i:Int):(fl xs).getD (i.toNat*12+10) (.v (.int .i64 0)) = .v (.int .i64 (ix xs i).when):=by
 have:=fq xs i 10 (by decide) (.v (.int .i64 0):SV) rfl
 rw [xt] at this
 exact this
@[push_cast] theorem M0 (xs:List cq) (i:Int):(fl xs).getD (i.toNat*12+11) (.v (.int .i64 0)) = .v (.int .i64 (ix xs i).seq):=by
 have:=fq xs i 11 (by decide) (.v (.int .i64 0):SV) rfl
 rw [xt] at this
 exact this
structure bV where
 now:Int
 Ring_Next:Int
 Ring_List:(List Int)
 deriving Inhabited,DecidableEq
instance : bZ bV:=⟨3,λd=>[.v (.int .i64 d.now),.v (.int .i64 d.Ring_Next),.sl d.Ring_List.length (fl d.Ring_List)],λ_=>rfl,λ_=>rfl,λ_=>by simp only [iq,SV.st,kP,de]⟩
@[push_cast] theorem w6:bZ.sz bV=3:=rfl
@[push_cast] theorem Ju (d:bV):bZ.cells d=[.v (.int .i64 d.now),.v (.int .i64 d.Ring_Next),.sl d.Ring_List.length (fl d.Ring_List)]:=rfl
@[push_cast] theorem KS (xs:List bV) (x0:Int) (x1:Int) (x2:(List Int)):fl xs++[.v (.int .i64 x0),.v (.int .i64 x1),.sl x2.length (fl x2)]=fl (xs++[bV.mk x0 x1 x2]):=by rw [fJ];rfl
@[push_cast] theorem I9 (xs:List bV) (i:Int):(fl xs).getD (i.toNat*3) (.v (.int .i64 0)) = .v (.int .i64 (ix xs i).now):=by
 have:=fq xs i 0 (by decide) (.v (.int .i64 0):SV) rfl
 rw [w6,eC] at this
 exact this
@[push_cast] theorem Et (xs:List bV) (i:Int):(fl xs).getD (i.toNat*3+1) (.v (.int .i64 0)) = .v (.int .i64 (ix xs i).Ring_Next):=by
 have:=fq xs i 1 (by decide) (.v (.int .i64 0):SV) rfl
 rw [w6] at this
 exact this
structure cI where
 Task:Int
 Case:Int
 Value:Int
 deriving Inhabited,DecidableEq
instance : bZ cI:=⟨3,λd=>[.v (.int .i64 d.Task),.v (.int .i64 d.Case),.v (.int .i64 d.Value)],λ_=>rfl,λ_=>rfl,λ_=>by simp only [iq,SV.st,kP,de]⟩
@[push_cast] theorem N7 (xs:List cI):iU (fl xs)=true:=mX (λ_=>rfl) xs
@[push_cast] theorem yz:bZ.sz cI=3:=rfl
@[push_cast] theorem M7 (d:cI):bZ.cells d=[.v (.int .i64 d.Task),.v (.int .i64 d.Case),.v (.int .i64 d.Value)]:=rfl
@[push_cast] theorem NA (xs:List cI) (x0:Int) (x1:Int) (x2:Int):fl xs++[.v (.int .i64 x0),.v (.int .i64 x1),.v (.int .i64 x2)]=fl (xs++[cI.mk x0 x1 x2]):=by rw [fJ];rfl
@[push_cast] theorem Lu (xs:List cI) (i:Int):(fl xs).getD (i.toNat*3) (.v (.int .i64 0)) = .v (.int .i64 (ix xs i).Task):=by
 have:=fq xs i 0 (by decide) (.v (.int .i64 0):SV) rfl
 rw [yz,eC] at this
 exact this
@[push_cast] theorem Lv (xs:List cI) (i:Int):(fl xs).getD (i.toNat*3+1) (.v (.int .i64 0)) = .v (.int .i64 (ix xs i).Case):=by
 have:=fq xs i 1 (by decide) (.v (.int .i64 0):SV) rfl
 rw [yz] at this
 exact this
@[push_cast] theorem KT (xs:List cI) (i:Int):(fl xs).getD (i.toNat*3+2) (.v (.int .i64 0)) = .v (.int .i64 (ix xs i).Value):=by
 have:=fq xs i 2 (by decide) (.v (.int .i64 0):SV) rfl
 rw [yz] at this
 exact this
structure cR where
 Cap:Int
 Items:(List Int)
 Closed:Bool
 Senders:(List cI)
 Getters:(List cI)
 deriving Inhabited,DecidableEq
instance : bZ cR:=⟨5,λd=>[.v (.int .i64 d.Cap),.sl d.Items.length (fl d.Items),.v (.bool d.Closed),.sl d.Senders.length (fl d.Senders),.sl d.Getters.length (fl d.Getters)],λ_=>rfl,λ_=>rfl,λ_=>by simp only [iq,SV.st,kP,de]⟩
@[push_cast] theorem Ff:bZ.sz cR=5:=rfl
@[push_cast] theorem NB (d:cR):bZ.cells d=[.v (.int .i64 d.Cap),.sl d.Items.length (fl d.Items),.v (.bool d.Closed),.sl d.Senders.length (fl d.Senders),.sl d.Getters.length (fl d.Getters)]:=rfl
@[push_cast] theorem N8 (xs:List cR) (x0:Int) (x1:(List Int)) (x2:Bool) (x3:(List cI)) (x4:(List cI)):fl xs++[.v (.int .i64 x0),.sl x1.length (fl x1),.v (.bool x2),.sl x3.length (fl x3),.sl x4.length (fl x4)]=fl (xs++[cR.mk x0 x1 x2 x3 x4]):=by rw [fJ];rfl
@[push_cast] theorem M8 (xs:List cR) (i:Int):(fl xs).getD (i.toNat*5) (.v (.int .i64 0)) = .v (.int .i64 (ix xs i).Cap):=by
 have:=fq xs i 0 (by decide) (.v (.int .i64 0):SV) rfl
 rw [Ff,eC] at this
 exact this
@[push_cast] theorem KU (xs:List cR) (i:Int):(fl xs).getD (i.toNat*5+2) (.v (.bool false)) = .v (.bool (ix xs i).Closed):=by
 have:=fq xs i 2 (by decide) (.v (.bool false):SV) rfl
 rw [Ff] at this
 exact this
structure dR where
 Task:Int
 Write:Bool
 N:Int
 deriving Inhabited,DecidableEq
instance : bZ dR:=⟨3,λd=>[.v (.int .i64 d.Task),.v (.bool d.Write),.v (.int .i64 d.N)],λ_=>rfl,λ_=>rfl,λ_=>by simp only [iq,SV.st,kP,de]⟩
@[push_cast] theorem Ov (xs:List dR):iU (fl xs)=true:=mX (λ_=>rfl) xs
@[push_cast] theorem Ay:bZ.sz dR=3:=rfl
@[push_cast] theorem NC (d:dR):bZ.cells d=[.v (.int .i64 d.Task),.v (.bool d.Write),.v (.int .i64 d.N)]:=rfl
@[push_cast] theorem N9 (xs:List dR) (x0:Int) (x1:Bool) (x2:Int):fl xs++[.v (.int .i64 x0),.v (.bool x1),.v (.int .i64 x2)]=fl (xs++[dR.mk x0 x1 x2]):=by rw [fJ];rfl
@[push_cast] theorem Mu (xs:List dR) (i:Int):(fl xs).getD (i.toNat*3) (.v (.int .i64 0)) = .v (.int .i64 (ix xs i).Task):=by
 have:=fq xs i 0 (by decide) (.v (.int .i64 0):SV) rfl
 rw [Ay,eC] at this
 exact this
@[push_cast] theorem Lw (xs:List dR) (i:Int):(fl xs).getD (i.toNat*3+1) (.v (.bool false)) = .v (.bool (ix xs i).Write):=by
 have:=fq xs i 1 (by decide) (.v (.bool false):SV) rfl
 rw [Ay] at this
 exact this
@[push_cast] theorem N_ (xs:List dR) (i:Int):(fl xs).getD (i.toNat*3+2) (.v (.int .i64 0)) = .v (.int .i64 (ix xs i).N):=by
 have:=fq xs i 2 (by decide) (.v (.int .i64 0):SV) rfl
 rw [Ay] at this
 exact this
structure di where
 Readers:Int
 Writer:Bool
 Line:(List dR)
 deriving Inhabited,DecidableEq
instance : bZ di:=⟨3,λd=>[.v (.int .i64 d.Readers),.v (.bool d.Writer),.sl d.Line.length (fl d.Line)],λ_=>rfl,λ_=>rfl,λ_=>by simp only [iq,SV.st,kP,de]⟩
@[push_cast] theorem Fg:bZ.sz di=3:=rfl
@[push_cast] theorem ND (d:di):bZ.cells d=[.v (.int .i64 d.Readers),.v (.bool d.Writer),.sl d.Line.length (fl d.Line)]:=rfl
@[push_cast] theorem Oa (xs:List di) (x0:Int) (x1:Bool) (x2:(List dR)):fl xs++[.v (.int .i64 x0),.v (.bool x1),.sl x2.length (fl x2)]=fl (xs++[di.mk x0 x1 x2]):=by rw [fJ];rfl
@[push_cast] theorem Jv (xs:List di) (i:Int):(fl xs).getD (i.toNat*3) (.v (.int .i64 0)) = .v (.int .i64 (ix xs i).Readers):=by
 have:=fq xs i 0 (by decide) (.v (.int .i64 0):SV) rfl
 rw [Fg,eC] at this
 exact this
@[push_cast] theorem KV (xs:List di) (i:Int):(fl xs).getD (i.toNat*3+1) (.v (.bool false)) = .v (.bool (ix xs i).Writer):=by
 have:=fq xs i 1 (by decide) (.v (.bool false):SV) rfl
 rw [Fg] at this
 exact this
structure cX where
 Count:Int
 Line:(List Int)
 deriving Inhabited,DecidableEq
instance : bZ cX:=⟨2,λd=>[.v (.int .i64 d.Count),.sl d.Line.length (fl d.Line)],λ_=>rfl,λ_=>rfl,λ_=>by simp only [iq,SV.st,kP,de]⟩
@[push_cast] theorem I_:bZ.sz cX=2:=rfl
@[push_cast] theorem M9 (d:cX):bZ.cells d=[.v (.int .i64 d.Count),.sl d.Line.length (fl d.Line)]:=rfl
@[push_cast] theorem NE (xs:List cX) (x0:Int) (x1:(List Int)):fl xs++[.v (.int .i64 x0),.sl x1.length (fl x1)]=fl (xs++[cX.mk x0 x1]):=by rw [fJ];rfl
@[push_cast] theorem KW (xs:List cX) (i:Int):(fl xs).getD (i.toNat*2) (.v (.int .i64 0)) = .v (.int .i64 (ix xs i).Count):=by
 have:=fq xs i 0 (by decide) (.v (.int .i64 0):SV) rfl
 rw [I_,eC] at this
 exact this
structure cy where
 Task:Int
 Op:Int
 Obj:Int
 Value:Int
 deriving Inhabited,DecidableEq
instance : bZ cy:=⟨4,λd=>[.v (.int .i64 d.Task),.v (.int .i64 d.Op),.v (.int .i64 d.Obj),.v (.int .i64 d.Value)],λ_=>rfl,λ_=>rfl,λ_=>by simp only [iq,SV.st,kP,de]⟩
@[push_cast] theorem NF (xs:List cy):iU (fl xs)=true:=mX (λ_=>rfl) xs
@[push_cast] theorem tI:bZ.sz cy=4:=rfl
@[push_cast] theorem Mv (d:cy):bZ.cells d=[.v (.int .i64 d.Task),.v (.int .i64 d.Op),.v (.int .i64 d.Obj),.v (.int .i64 d.Value)]:=rfl
@[push_cast] theorem M_ (xs:List cy) (x0:Int) (x1:Int) (x2:Int) (x3:Int):fl xs++[.v (.int .i64 x0),.v (.int .i64 x1),.v (.int .i64 x2),.v (.int .i64 x3)]=fl (xs++[cy.mk x0 x1 x2 x3]):=by rw [fJ];rfl
@[push_cast] theorem KX (xs:List cy) (i:Int):(fl xs).getD (i.toNat*4) (.v (.int .i64 0)) = .v (.int .i64 (ix xs i).Task):=by
 have:=fq xs i 0 (by decide) (.v (.int .i64 0):SV) rfl
 rw [tI,eC] at this
 exact this
@[push_cast] theorem Mw (xs:List cy) (i:Int):(fl xs).getD (i.toNat*4+1) (.v (.int .i64 0)) = .v (.int .i64 (ix xs i).Op):=by
 have:=fq xs i 1 (by decide) (.v (.int .i64 0):SV) rfl
 rw [tI] at this
 exact this
@[push_cast] theorem Lx (xs:List cy) (i:Int):(fl xs).getD (i.toNat*4+2) (.v (.int .i64 0)) = .v (.int .i64 (ix xs i).Obj):=by
 have:=fq xs i 2 (by decide) (.v (.int .i64 0):SV) rfl
 rw [tI] at this
 exact this
@[push_cast] theorem Jw (xs:List cy) (i:Int):(fl xs).getD (i.toNat*4+3) (.v (.int .i64 0)) = .v (.int .i64 (ix xs i).Value):=by
 have:=fq xs i 3 (by decide) (.v (.int .i64 0):SV) rfl
 rw [tI] at this
 exact this
structure fA where
 Next:Int
 List:(List Int)
 deriving Inhabited,DecidableEq
instance : bZ fA:=⟨2,λd=>[.v (.int .i64 d.Next),.sl d.List.length (fl d.List)],λ_=>rfl,λ_=>rfl,λ_=>by simp only [iq,SV.st,kP,de]⟩
@[push_cast] theorem KY:bZ.sz fA=2:=rfl
@[push_cast] theorem NG (d:fA):bZ.cells d=[.v (.int .i64 d.Next),.sl d.List.length (fl d.List)]:=rfl
@[push_cast] theorem Ob (xs:List fA) (x0:Int) (x1:(List Int)):fl xs++[.v (.int .i64 x0),.sl x1.length (fl x1)]=fl (xs++[fA.mk x0 x1]):=by rw [fJ];rfl
@[push_cast] theorem Mx (xs:List fA) (i:Int):(fl xs).getD (i.toNat*2) (.v (.int .i64 0)) = .v (.int .i64 (ix xs i).Next):=by
 have:=fq xs i 0 (by decide) (.v (.int .i64 0):SV) rfl
 rw [KY,eC] at this
 exact this
structure dc where
 Task:Int
 Case:Int
 Value:Int
 Ok:Bool
 Panic:Bool
 deriving Inhabited,DecidableEq
instance : bZ dc:=⟨5,λd=>[.v (.int .i64 d.Task),.v (.int .i64 d.Case),.v (.int .i64 d.Value),.v (.bool d.Ok),.v (.bool d.Panic)],λ_=>rfl,λ_=>rfl,λ_=>by simp only [iq,SV.st,kP,de]⟩
@[push_cast] theorem Oc (xs:List dc):iU (fl xs)=true:=mX (λ_=>rfl) xs
@[push_cast] theorem s6:bZ.sz dc=5:=rfl
@[push_cast] theorem Na (d:dc):bZ.cells d=[.v (.int .i64 d.Task),.v (.int .i64 d.Case),.v (.int .i64 d.Value),.v (.bool d.Ok),.v (.bool d.Panic)]:=rfl
@[push_cast] theorem NH (xs:List dc) (x0:Int) (x1:Int) (x2:Int) (x3:Bool) (x4:Bool):fl xs++[.v (.int .i64 x0),.v (.int .i64 x1),.v (.int .i64 x2),.v (.bool x3),.v (.bool x4)]=fl (xs++[dc.mk x0 x1 x2 x3 x4]):=by rw [fJ];rfl
@[push_cast] theorem Ly (xs:List dc) (i:Int):(fl xs).getD (i.toNat*5) (.v (.int .i64 0)) = .v (.int .i64 (ix xs i).Task):=by
 have:=fq xs i 0 (by decide) (.v (.int .i64 0):SV) rfl
 rw [s6,eC] at this
 exact this
@[push_cast] theorem Lz (xs:List dc) (i:Int):(fl xs).getD (i.toNat*5+1) (.v (.int .i64 0)) = .v (.int .i64 (ix xs i).Case):=by
 have:=fq xs i 1 (by decide) (.v (.int .i64 0):SV) rfl
 rw [s6] at this
 exact this
@[push_cast] theorem KZ (xs:List dc) (i:Int):(fl xs).getD (i.toNat*5+2) (.v (.int .i64 0)) = .v (.int .i64 (ix xs i).Value):=by
 have:=fq xs i 2 (by decide) (.v (.int .i64 0):SV) rfl
 rw [s6] at this
 exact this
@[push_cast] theorem Nb (xs:List dc) (i:Int):(fl xs).getD (i.toNat*5+3) (.v (.bool false)) = .v (.bool (ix xs i).Ok):=by
 have:=fq xs i 3 (by decide) (.v (.bool false):SV) rfl
 rw [s6] at this
 exact this
@[push_cast] theorem K0 (xs:List dc) (i:Int):(fl xs).getD (i.toNat*5+4) (.v (.bool false)) = .v (.bool (ix xs i).Panic):=by
 have:=fq xs i 4 (by decide) (.v (.bool false):SV) rfl
 rw [s6] at this
 exact this
structure lh where
 Done:Bool
 Panic:Bool
 Ok:Bool
 Value:Int
 Case:Int
 Wakes:(List dc)
 deriving Inhabited,DecidableEq
instance : bZ lh:=⟨6,λd=>[.v (.bool d.Done),.v (.bool d.Panic),.v (.bool d.Ok),.v (.int .i64 d.Value),.v (.int .i64 d.Case),.sl d.Wakes.length (fl d.Wakes)],λ_=>rfl,λ_=>rfl,λ_=>by simp only [iq,SV.st,kP,de]⟩
@[push_cast] theorem rK:bZ.sz lh=6:=rfl
@[push_cast] theorem My (d:lh):bZ.cells d=[.v (.bool d.Done),.v (.bool d.Panic),.v (.bool d.Ok),.v (.int .i64 d.Value),.v (.int .i64 d.Case),.sl d.Wakes.length (fl d.Wakes)]:=rfl
@[push_cast] theorem Nc (xs:List lh) (x0:Bool) (x1:Bool) (x2:Bool) (x3:Int) (x4:Int) (x5:(List dc)):fl xs++[.v (.bool x0),.v (.bool x1),.v (.bool x2),.v (.int .i64 x3),.v (.int .i64 x4),.sl x5.length (fl x5)]=fl (xs++[lh.mk x0 x1 x2 x3 x4 x5]):=by rw [fJ];rfl
@[push_cast] theorem K7 (xs:List lh) (i:Int):(fl xs).getD (i.toNat*6) (.v (.bool false)) = .v (.bool (ix xs i).Done):=by
 have:=fq xs i 0 (by decide) (.v (.bool false):SV) rfl
 rw [rK,eC] at this
 exact this
@[push_cast] theorem Jx (xs:List lh) (i:Int):(fl xs).getD (i.toNat*6+1) (.v (.bool false)) = .v (.bool (ix xs i).Panic):=by
 have:=fq xs i 1 (by decide) (.v (.bool false):SV) rfl
 rw [rK] at this
 exact this
@[push_cast] theorem Mz (xs:List lh) (i:Int):(fl xs).getD (i.toNat*6+2) (.v (.bool false)) = .v (.bool (ix xs i).Ok):=by
 have:=fq xs i 2 (by decide) (.v (.bool false):SV) rfl
 rw [rK] at this
 exact this
@[push_cast] theorem Jy (xs:List lh) (i:Int):(fl xs).getD (i.toNat*6+3) (.v (.int .i64 0)) = .v (.int .i64 (ix xs i).Value):=by
 have:=fq xs i 3 (by decide) (.v (.int .i64 0):SV) rfl
 rw [rK] at this
 exact this
@[push_cast] theorem K8 (xs:List lh) (i:Int):(fl xs).getD (i.toNat*6+4) (.v (.int .i64 0)) = .v (.int .i64 (ix xs i).Case):=by
 have:=fq xs i 4 (by decide) (.v (.int .i64 0):SV) rfl
 rw [rK] at this
 exact this
structure lQ where
 Trace:(List cy)
 State:Int
 Steps:Int
 Now:Int
 Tasks:(List Int)
 Cells:(List Int)
 deriving Inhabited,DecidableEq
instance : bZ lQ:=⟨6,λd=>[.sl d.Trace.length (fl d.Trace),.v (.int .i64 d.State),.v (.int .i64 d.Steps),.v (.int .i64 d.Now),.sl d.Tasks.length (fl d.Tasks),.sl d.Cells.length (fl d.Cells)],λ_=>rfl,λ_=>rfl,λ_=>by simp only [iq,SV.st,kP,de]⟩
@[push_cast] theorem w7:bZ.sz lQ=6:=rfl
@[push_cast] theorem MA (d:lQ):bZ.cells d=[.sl d.Trace.length (fl d.Trace),.v (.int .i64 d.State),.v (.int .i64 d.Steps),.v (.int .i64 d.Now),.sl d.Tasks.length (fl d.Tasks),.sl d.Cells.length (fl d.Cells)]:=rfl
@[push_cast] theorem Nd (xs:List lQ) (x0:(List cy)) (x1:Int) (x2:Int) (x3:Int) (x4:(List Int)) (x5:(List Int)):fl xs++[.sl x0.length (fl x0),.v (.int .i64 x1),.v (.int .i64 x2),.v (.int .i64 x3),.sl x4.length (fl x4),.sl x5.length (fl x5)]=fl (xs++[lQ.mk x0 x1 x2 x3 x4 x5]):=by rw [fJ];rfl
@[push_cast] theorem Jz (xs:List lQ) (i:Int):(fl xs).getD (i.toNat*6+1) (.v (.int .i64 0)) = .v (.int .i64 (ix xs i).State):=by
 have:=fq xs i 1 (by decide) (.v (.int .i64 0):SV) rfl
 rw [w7] at this
 exact this
@[push_cast] theorem JA (xs:List lQ) (i:Int):(fl xs).getD (i.toNat*6+2) (.v (.int .i64 0)) = .v (.int .i64 (ix xs i).Steps):=by
 have:=fq xs i 2 (by decide) (.v (.int .i64 0):SV) rfl
 rw [w7] at this
 exact this
@[push_cast] theorem LA (xs:List lQ) (i:Int):(fl xs).getD (i.toNat*6+3) (.v (.int .i64 0)) = .v (.int .i64 (ix xs i).Now):=by
 have:=fq xs i 3 (by decide) (.v (.int .i64 0):SV) rfl
 rw [w7] at this
 exact this
def ie:List kind:=[⟨⟨#[]⟩,⟨#[]⟩⟩,⟨⟨#[115,101,116]⟩,⟨#[114,110]⟩⟩,⟨⟨#[99,111,112,121]⟩,⟨#[114,114]⟩⟩,⟨⟨#[97,100,100]⟩,⟨#[114,114]⟩⟩,⟨⟨#[115,117,98]⟩,⟨#[114,114]⟩⟩,⟨⟨#[108,101,115,115]⟩,⟨#[114,114]⟩⟩,⟨⟨#[106,117,109,112]⟩,⟨#[99,45]⟩⟩,⟨⟨#[122,101,114,111]⟩,⟨#[114,99]⟩⟩,⟨⟨#[112,114,105,110,116]⟩,⟨#[114,45]⟩⟩,⟨⟨#[101,110,100]⟩,⟨#[45,45]⟩⟩,⟨⟨#[121,105,101,108,100]⟩,⟨#[45,45]⟩⟩,⟨⟨#[103,111]⟩,⟨#[99,114]⟩⟩,⟨⟨#[108,111,97,100]⟩,⟨#[114,109]⟩⟩,⟨⟨#[115,116,111,114,101]⟩,⟨#[109,114]⟩⟩,⟨⟨#[115,101,110,100]⟩,⟨#[112,114]⟩⟩,⟨⟨#[103,101,116]⟩,⟨#[114,112]⟩⟩,⟨⟨#[115,104,117,116]⟩,⟨#[112,45]⟩⟩,⟨⟨#[108,111,99,107]⟩,⟨#[108,107]⟩⟩,⟨⟨#[117,110,108,111,99,107]⟩,⟨#[108,107]⟩⟩,⟨⟨#[99,111,117,110,116]⟩,⟨#[103,114]⟩⟩,⟨⟨#[119,97,105,116]⟩,⟨#[103,45]⟩⟩,⟨⟨#[115,108,101,101,112]⟩,⟨#[114,45]⟩⟩,⟨⟨#[112,97,110,105,99]⟩,⟨#[45,45]⟩⟩]
def f8:List ByteArray:=[⟨#[]⟩,⟨#[114,110]⟩,⟨#[114,114]⟩,⟨#[114,114]⟩,⟨#[114,114]⟩,⟨#[114,114]⟩,⟨#[99,45]⟩,⟨#[114,99]⟩,⟨#[114,45]⟩,⟨#[45,45]⟩,⟨#[45,45]⟩,⟨#[99,114]⟩,⟨#[114,109]⟩,⟨#[109,114]⟩,⟨#[112,114]⟩,⟨#[114,112]⟩,⟨#[112,45]⟩,⟨#[108,107]⟩,⟨#[108,107]⟩,⟨#[103,114]⟩,⟨#[103,45]⟩,⟨#[114,45]⟩,⟨#[45,45]⟩]
def nm (a b:Int):Option (cE):=(some ((cE.mk a b)))
def rL (p:cz) (k x:Int):Option (Bool):=(bif (k==110) then (some (true)) else (some (((decide ((0:Int)<=x))&&(decide (x<(fY [(114,8),(99,(p.Code.length:Int)),(109,p.Cells),(112,(p.Pipes.length:Int)),(108,p.Locks),(103,p.Groups),(107,2),(45,1)] k)))))))
def pu (a:Int) (b:Bool):Option (((Int) ⊕ (cE))):=(bif b then ((nm 5 a).bind λc=>(Option.map Sum.inr (some (c)))) else (some (Sum.inl ((i64.wrap (a+1))))))
def jc (p:cz):Int->Option (((Int) ⊕ (cE))):=λa=>(bif (decide (a<(p.Code.length:Int))) then (bif ((decide ((0:Int)<=a))&&(decide (a<(p.Code.length:Int)))) then (bif ((decide ((ix p.Code a).Op<1))||(decide ((23:Int)<=(ix p.Code a).Op))) then ((nm 4 a).bind λb=>(Option.map Sum.inr (some (b)))) else (bif ((decide ((0:Int)<=(ix p.Code a).Op))&&(decide ((ix p.Code a).Op<(ie.length:Int)))) then (bif (decide ((0:Int)<((((ix ie (ix p.Code a).Op).args).size:Nat):Int))) then ((rL p ((((ix ie (ix p.Code a).Op).args).data.getD ((0:Int)).toNat 0).toNat:Int) (ix p.Code a).A).bind λd=>(bif (!d) then (pu a true) else (bif (decide ((1:Int)<((((ix ie (ix p.Code a).Op).args).size:Nat):Int))) then ((rL p ((((ix ie (ix p.Code a).Op).args).data.getD ((1:Int)).toNat 0).toNat:Int) (ix p.Code a).B).bind λc=>(pu a (!c))) else none))) else none) else none)) else none) else (Option.map Sum.inr (some ((cE.mk 0 0)))))
def mb (p:cz):Int->Option (((Int) ⊕ (cE))):=λa=>(bif (decide (a<(p.Pipes.length:Int))) then (bif ((decide ((0:Int)<=a))&&(decide (a<(p.Pipes.length:Int)))) then (bif ((decide ((ix p.Pipes a)<0))||(decide ((100:Int)<(ix p.Pipes a)))) then ((nm 8 a).bind λb=>(Option.map Sum.inr (some (b)))) else (some (Sum.inl ((i64.wrap (a+1)))))) else none) else (Option.map Sum.inr (dE (jc p) (0))))
def qk (p:cz):Option (cE):=(bif ((decide ((1000:Int)<(p.Code.length:Int)))||(decide ((20:Int)<(p.Pipes.length:Int)))) then ((nm 2 0).bind λb=>(some (b))) else (bif ((decide ((min (min p.Cells p.Locks) p.Groups)<0))||(decide ((20:Int)<(max (max p.Cells p.Locks) p.Groups)))) then ((nm 3 0).bind λa=>(some (a))) else (dE (mb p) (0))))
def pe (a b:Int):Option (cE):=(some ((cE.mk a b)))
def kb (p:cz) (c:List bV):Int×(List cR)->Option (((Int×List cR) ⊕ ((List Int)×List cq×List bV×List Int×List cR×List di×List cX))):=λ(a,b)=>(bif (decide (a<(p.Pipes.length:Int))) then (bif ((decide ((0:Int)<=a))&&(decide (a<(p.Pipes.length:Int)))) then (bif (decide ((b++([(cR.mk (ix p.Pipes a) [] false [] [])]:List cR)).length*88<=140737488355328)) then (some (Sum.inl ((i64.wrap (a+1)),(b++([(cR.mk (ix p.Pipes a) [] false [] [])]:List cR))))) else none) else none) else (Option.map Sum.inr (bif (decide (0<=p.Locks/\p.Locks<=4611686018427387904/\(40:Int)*p.Locks<=140737488355328)) then (bif (decide (0<=p.Groups/\p.Groups<=4611686018427387904/\(32:Int)*p.Groups<=140737488355328)) then (some ((List.replicate (p.Cells).toNat (default:Int)),([((cq.mk 0 (default:(dn 8)) 0 0 0):cq)]:List cq),c,([1]:List Int),b,(List.replicate (p.Locks).toNat (default:di)),(List.replicate (p.Groups).toNat (default:cX)))) else none) else none)))
def kc (p:cz) (c:Int):Int×(List bV)->Option (((Int×List bV) ⊕ ((List Int)×List cq×List bV×List Int×List cR×List di×List cX))):=λ(b,a)=>(bif (decide (b<c)) then (bif (decide ((a++[((bV.mk 0 0 []):bV)]).length*8<=140737488355328)) then (some (Sum.inl ((i64.wrap (b+1)),(a++[((bV.mk 0 0 []):bV)])))) else none) else (Option.map Sum.inr (dE (kb p a) (0,[]))))
def lR (p:cz) (a:Int):Option ((List Int)×List cq×List bV×List Int×List cR×List di×List cX):=(bif (decide (0<=p.Cells/\p.Cells<=4611686018427387904/\(8:Int)*p.Cells<=140737488355328)) then (dE (kc p a) (0,[])) else none)
def iB (m:(List (PT cq))) (t:Int):Option (cq):=(bif ((decide ((0:Int)<=(i64.wrap (t-1))))&&(decide ((i64.wrap (t-1))<(m.length:Int)))) then (some ((ix m (i64.wrap (t-1))).x)) else none)
def nE (x:Int):Option (Bool):=(some ((x != x)))
def kR (x y:Int):Option (Int):=((nE x).bind λb=>((nE y).bind λa=>(bif b then (bif a then (some (0)) else (some ((-1)))) else (bif a then (some (1)) else (bif (decide (x<y)) then (some ((-1))) else (bif (decide (y<x)) then (some (1)) else (some (0))))))))
def px (b:List Int):Int->Option (((Int) ⊕ (Int))):=λa=>(bif (decide (a<(b.length:Int))) then (bif ((decide ((0:Int)<=a))&&(decide (a<(b.length:Int)))) then (bif ((ix b a) != 0) then (Option.map Sum.inr (some ((ix b a)))) else (some (Sum.inl ((i64.wrap (a+1)))))) else none) else (Option.map Sum.inr (some (0))))
def ql (a:List Int):Option (Int):=(dE (px a) (0))
def eE (j b:Int) (i:(List (PT cq))):Option (Int):=((iB i j).bind λe=>((iB i b).bind λh=>((kR e.when h.when).bind λd=>((iB i j).bind λa=>((iB i b).bind λc=>((kR a.seq c.seq).bind λf=>((ql ([d,f]:List Int)).bind λg=>(some (g)))))))))
def ke (c0:List Int) (ts:(List (PT cq))):Option (List Int):=open Classical in if (∀ a b:Int,1<=a/\a<=((((c0.foldl max 0).toNat):Nat):Int)->1<=b/\b<=((((c0.foldl max 0).toNat):Nat):Int)->(eE a b ts).isSome=true)/\Go.Sort.SWO (Go.Proofs.ltOf λ(a b:Rg ((c0.foldl max 0).toNat))=>(λa b:Int=>(eE a b ts).getD 0) a.1 b.1)/\(∀ x∈c0,1<=x/\x<=((((c0.foldl max 0).toNat):Nat):Int))/\c0.length<4611686018427387904 then some (oM ((c0.foldl max 0).toNat) (λa b:Int=>(eE a b ts).getD 0) c0) else none
def iN (c:Int) (b:List cq) (a:List Int):Option (((Int×List cq×List Int) ⊕ (Int×List Int×List cq))):=(some (Sum.inl ((i64.wrap (c+1)),b,a)))
def jZ (c:Int) (g:List cq) (f:List Int):Int×List cq×(List Int)->Option (((Int×List cq×List Int) ⊕ (Int×List Int×List cq))):=λ(a,b,d)=>(bif (decide (a<(g.length:Int))) then (bif ((decide ((0:Int)<=a))&&(decide (a<(b.length:Int)))) then (bif (((ix b a).state==2)&&(decide ((ix b a).when<=(i64.wrap (c+1))))) then (bif (decide ((d++([(i64.wrap (a+1))]:List Int)).length*8<=140737488355328)) then (iN a (b.set a.toNat ((cq.mk (ix b a).pc (ix b a).r 0 (ix b a).when (ix b a).seq):cq)) (d++([(i64.wrap (a+1))]:List Int))) else none) else (iN a b d)) else none) else (Option.map Sum.inr ((ke d (b.map PT.mk)).bind λe=>(bif (decide (e.length=d.length)) then (bif (decide ((f++e).length*8<=140737488355328)) then (some ((i64.wrap (c+1)),(f++e),b)) else none) else none))))
def jP (a:Int) (b:List cq) (c:List Int):Option (Int×List Int×List cq):=(dE (jZ a b c) (0,b,[]))
def ii (a b:Int):Option (cE):=(some ((cE.mk a b)))
def mc (q:fA):Int×(List (Int×Int))->Option (((Int×(List (Int×Int))) ⊕ (cE))):=λ(a,b)=>(bif (decide (a<(q.List.length:Int))) then (bif ((decide ((0:Int)<=a))&&(decide (a<(q.List.length:Int)))) then (bif (decide ((ix q.List a)<1)) then ((ii 3 (i64.wrap (a+1))).bind λd=>(Option.map Sum.inr (some (d)))) else (bif (decide ((0:Int)<(fY b (ix q.List a)))) then ((ii 10 (i64.wrap (a+1))).bind λc=>(Option.map Sum.inr (some (c)))) else (some (Sum.inl ((i64.wrap (a+1)),(iw b (ix q.List a) 1)))))) else none) else (Option.map Sum.inr (some ((cE.mk 0 0)))))
def nG (q:fA) (a:(List (Int×Int))):Option (cE):=(dE (mc q) (0,a))
def kz (q:fA):Option (cE):=(bif (decide ((256:Int)<(q.List.length:Int))) then ((ii 2 0).bind λb=>(some (b))) else (bif (decide (q.Next<0)) then ((ii 3 0).bind λa=>(some (a))) else (bif (decide ((0:Int)<q.Next)) then (nG q (iw [] q.Next 1)) else (nG q []))))
def fg (s:List Int):Option ((List Int)):=(bif (decide ((([]:List Int)++s).length*8<=140737488355328)) then (some ((([]:List Int)++s))) else none)
def kA (q:fA):Option ((List Int)):=((fg q.List).bind λa=>(some (a)))
def iY (q:fA):Option (Int×Int×cE×List Int):=((kz q).bind λb=>(bif (b.Code != 0) then (some (0,0,b,[])) else ((kA q).bind λa=>(bif (decide ((0:Int)<q.Next)) then (some (0,q.Next,(cE.mk 0 0),a)) else (bif ((a.length:Int)==0) then ((ii 6 0).bind λc=>(some (0,0,c,[]))) else (bif (decide ((0:Int)<(a.length:Int))) then (bif (decide ((1:Int)<=(a.length:Int))) then ((fg (cut a (1:Int) (a.length:Int))).bind λd=>(some (q.Next,(ix a (0:Int)),(cE.mk 0 0),d))) else none) else none))))))
def fP (b:Int) (c:cE) (a:List bV):Option (Bool×List bV):=(bif (decide (0<=b/\b<(a.length:Int))) then (some ((c.Code==0),a)) else none)
def dV (b:Int) (c:List bV):Option (Bool×List bV):=(bif (decide (0<=b/\b<(c.length:Int))) then ((iY (fA.mk (ix c b).Ring_Next (ix c b).Ring_List)).bind λa=>((λz0:List bV=>(bif (a.2.2.1.Code==0) then (fP b a.2.2.1 (z0.set b.toNat ((bV.mk a.2.1 (ix z0 b).Ring_Next (ix z0 b).Ring_List):bV))) else (fP b a.2.2.1 c))) (c.set b.toNat ((bV.mk (ix c b).now a.1 a.2.2.2):bV)))) else none)
def mH (q:fA):Option ((List Int)):=(bif (decide ((0:Int)<q.Next)) then (bif (decide ((([q.Next]:List Int)++q.List).length*8<=140737488355328)) then (some ((([q.Next]:List Int)++q.List))) else none) else ((fg q.List).bind λa=>(some (a))))
def np (b:List Int):Int×(List (Int×Int))->Option (((Int×(List (Int×Int))) ⊕ (Int))):=λ(a,c)=>(bif (decide (a<(b.length:Int))) then (bif ((decide ((0:Int)<=a))&&(decide (a<(b.length:Int)))) then (bif (decide ((0:Int)<(fY c (ix b a)))) then (Option.map Sum.inr (some (a))) else (some (Sum.inl ((i64.wrap (a+1)),(iw c (ix b a) 1))))) else none) else (Option.map Sum.inr (some ((-1)))))
def nt (d b:List Int):Int×(List (Int×Int))->Option (((Int×(List (Int×Int))) ⊕ (Int))):=λ(a,c)=>(bif (decide (a<(d.length:Int))) then (bif ((decide ((0:Int)<=a))&&(decide (a<(d.length:Int)))) then (some (Sum.inl ((i64.wrap (a+1)),(iw c (ix d a) 1)))) else none) else (Option.map Sum.inr (dE (np b) (0,c))))
def md (a b:List Int):Option (Int):=(dE (nt a b) (0,[]))
def ki (q:fA) (a:Int) (c:List Int):Int->Option (((Int) ⊕ (Int×cE×List Int×List Int))):=λb=>(bif (decide (b<(c.length:Int))) then (bif ((decide ((0:Int)<=b))&&(decide (b<(c.length:Int)))) then (bif (decide ((ix c b)<1)) then ((ii 5 b).bind λh=>(Option.map Sum.inr (some (0,h,[],[])))) else (some (Sum.inl ((i64.wrap (b+1)))))) else none) else (Option.map Sum.inr ((mH q).bind λi=>((md i c).bind λd=>(bif (decide ((0:Int)<=d)) then ((ii 8 d).bind λf=>(some (0,f,[],[]))) else (bif ((decide (a<1))||(decide ((64:Int)<a))) then ((ii 3 (-1)).bind λg=>(some (0,g,[],[]))) else (bif (a != 0) then ((kA q).bind λe=>(bif ((decide ((0:Int)<=(min (min (min (i64.wrap ((i64.wrap (Int.tdiv (c.length:Int) a))+1)) (c.length:Int)) 128) (i64.wrap ((256:Int)-(q.List.length:Int))))))&&(decide ((min (min (min (i64.wrap ((i64.wrap (Int.tdiv (c.length:Int) a))+1)) (c.length:Int)) 128) (i64.wrap ((256:Int)-(q.List.length:Int))))<=(c.length:Int)))) then (bif (decide ((e++(cut c (0:Int) (min (min (min (i64.wrap ((i64.wrap (Int.tdiv (c.length:Int) a))+1)) (c.length:Int)) 128) (i64.wrap ((256:Int)-(q.List.length:Int)))))).length*8<=140737488355328)) then (bif ((decide ((0:Int)<=(min (min (min (i64.wrap ((i64.wrap (Int.tdiv (c.length:Int) a))+1)) (c.length:Int)) 128) (i64.wrap ((256:Int)-(q.List.length:Int))))))&&(decide ((min (min (min (i64.wrap ((i64.wrap (Int.tdiv (c.length:Int) a))+1)) (c.length:Int)) 128) (i64.wrap ((256:Int)-(q.List.length:Int))))<=(c.length:Int)))) then ((fg (cut c (min (min (min (i64.wrap ((i64.wrap (Int.tdiv (c.length:Int) a))+1)) (c.length:Int)) 128) (i64.wrap ((256:Int)-(q.List.length:Int)))) (c.length:Int))).bind λj=>(some (q.Next,(cE.mk 0 0),(e++(cut c (0:Int) (min (min (min (i64.wrap ((i64.wrap (Int.tdiv (c.length:Int) a))+1)) (c.length:Int)) 128) (i64.wrap ((256:Int)-(q.List.length:Int)))))),j))) else none) else none) else none)) else none)))))))
def jd (q:fA) (b:Int) (d:List Int):Option (Int×cE×List Int×List Int):=((kz q).bind λa=>(bif (a.Code != 0) then (some (0,a,[],[])) else (bif (decide ((5000:Int)<(d.length:Int))) then ((ii 2 (-1)).bind λc=>(some (0,c,[],[]))) else (dE (ki q b d) (0)))))
def je (c f:fA) (g:Bool):Int->Option (((Int) ⊕ (Int×Int×Int×cE×List Int×List Int))):=λd=>(bif (decide (d<((([c,f]:List fA).length:Nat):Int))) then (bif ((decide ((0:Int)<=d))&&(decide (d<((([c,f]:List fA).length:Nat):Int)))) then ((kz (ix ([c,f]:List fA) d)).bind λe=>(bif (e.Code != 0) then (Option.map Sum.inr (some (0,0,0,e,[],[]))) else (some (Sum.inl ((i64.wrap (d+1))))))) else none) else (Option.map Sum.inr ((mH c).bind λk=>((mH f).bind λj=>((md k j).bind λl=>(bif (decide ((0:Int)<=l)) then ((ii 8 0).bind λi=>(some (0,0,0,i,[],[]))) else ((kA c).bind λa=>((kA f).bind λb=>(bif ((a.length:Int)==0) then (bif ((!g)||((c.Next==0)||((i64.wrap ((256:Int)-(b.length:Int)))==0))) then (some (c.Next,f.Next,0,(cE.mk 0 0),a,b)) else (bif (decide ((b++([c.Next]:List Int)).length*8<=140737488355328)) then (some (0,f.Next,1,(cE.mk 0 0),a,(b++([c.Next]:List Int)))) else none)) else (bif ((decide ((0:Int)<=(min (i64.wrap ((a.length:Int)-(i64.wrap (Int.tdiv (a.length:Int) 2)))) (i64.wrap ((256:Int)-(b.length:Int))))))&&(decide ((min (i64.wrap ((a.length:Int)-(i64.wrap (Int.tdiv (a.length:Int) 2)))) (i64.wrap ((256:Int)-(b.length:Int))))<=(a.length:Int)))) then (bif (decide ((b++(cut a (0:Int) (min (i64.wrap ((a.length:Int)-(i64.wrap (Int.tdiv (a.length:Int) 2)))) (i64.wrap ((256:Int)-(b.length:Int)))))).length*8<=140737488355328)) then (bif ((decide ((0:Int)<=(min (i64.wrap ((a.length:Int)-(i64.wrap (Int.tdiv (a.length:Int) 2)))) (i64.wrap ((256:Int)-(b.length:Int))))))&&(decide ((min (i64.wrap ((a.length:Int)-(i64.wrap (Int.tdiv (a.length:Int) 2)))) (i64.wrap ((256:Int)-(b.length:Int))))<=(a.length:Int)))) then ((fg (cut a (min (i64.wrap ((a.length:Int)-(i64.wrap (Int.tdiv (a.length:Int) 2)))) (i64.wrap ((256:Int)-(b.length:Int)))) (a.length:Int))).bind λh=>(some (c.Next,f.Next,(min (i64.wrap ((a.length:Int)-(i64.wrap (Int.tdiv (a.length:Int) 2)))) (i64.wrap ((256:Int)-(b.length:Int)))),(cE.mk 0 0),h,(b++(cut a (0:Int) (min (i64.wrap ((a.length:Int)-(i64.wrap (Int.tdiv (a.length:Int) 2)))) (i64.wrap ((256:Int)-(b.length:Int))))))))) else none) else none) else none))))))))))
def nu (b c:fA) (a:Bool):Option (Int×Int×Int×cE×List Int×List Int):=(dE (je b c a) (0))
def j5 (p:Int) (e:List Int):Int×(List bV)->Option (((Int×List bV) ⊕ (Bool×List Int×List bV))):=λ(d,a)=>(bif (decide (0<=p/\p<(a.length:Int))) then (bif (decide (d<(a.length:Int))) then (bif ((a.length:Int) != 0) then (bif ((decide ((0:Int)<=(Int.tmod (i64.wrap (p+d)) (a.length:Int))))&&(decide ((Int.tmod (i64.wrap (p+d)) (a.length:Int))<(a.length:Int)))) then ((nu (fA.mk (ix a (Int.tmod (i64.wrap (p+d)) (a.length:Int))).Ring_Next (ix a (Int.tmod (i64.wrap (p+d)) (a.length:Int))).Ring_List) (fA.mk (ix a p).Ring_Next (ix a p).Ring_List) true).bind λb=>(bif (decide ((0:Int)<b.2.2.1)) then ((λz0:List bV=>((λz1:List bV=>((dV p z1).bind λc=>(bif (decide (c.2.length=z1.length)) then (bif (decide (0<=p/\p<(c.2.length:Int))) then (Option.map Sum.inr (some (c.1,e,c.2))) else none) else none))) (z0.set p.toNat ((bV.mk (ix z0 p).now b.2.1 b.2.2.2.2.2):bV)))) (a.set (Int.tmod (i64.wrap (p+d)) (a.length:Int)).toNat ((bV.mk (ix a (Int.tmod (i64.wrap (p+d)) (a.length:Int))).now b.1 b.2.2.2.2.1):bV))) else (some (Sum.inl ((i64.wrap (d+1)),a))))) else none) else none) else (Option.map Sum.inr (some (false,e,a)))) else none)
def gu (p:Int) (e:List bV) (d:List Int):Option (Bool×List Int×List bV):=(bif ((decide ((0:Int)<=p))&&(decide (p<(e.length:Int)))) then ((dV p e).bind λa=>(bif (decide (a.2.length=e.length)) then (bif (decide (0<=p/\p<(a.2.length:Int))) then (bif a.1 then (some (true,d,a.2)) else (bif (decide ((0:Int)<(d.length:Int))) then ((jd (fA.mk (ix a.2 p).Ring_Next (ix a.2 p).Ring_List) (a.2.length:Int) d).bind λb=>((λz0:List bV=>((dV p z0).bind λc=>(bif (decide (c.2.length=z0.length)) then (bif (decide (0<=p/\p<(c.2.length:Int))) then (some (c.1,b.2.2.2,c.2)) else none) else none))) (a.2.set p.toNat ((bV.mk (ix a.2 p).now b.1 b.2.2.1):bV)))) else (dE (j5 p d) (1,a.2)))) else none) else none)) else none)
def dL (t:Int) (a:List cq):Option (Int):=(bif ((decide ((0:Int)<=(i64.wrap (t-1))))&&(decide ((i64.wrap (t-1))<(a.length:Int)))) then (some ((i64.wrap (t-1)))) else none)
def oN (a:Int):Option (Bool):=(some (((decide ((1:Int)<=a))&&(decide (a<=7)))))
def gJ (b:Int) (a:List cq):Option (Int×List cq):=(some ((i64.wrap (b+1)),a))
def me (c:df) (d b:Int) (a:List cq):Option (Int×List cq):=(bif (decide (0<=b/\b<(a.length:Int))) then (bif (c.Op==1) then (bif ((decide ((0:Int)<=c.A))&&(decide (c.A<((8:Nat):Int)))) then (gJ d (a.set b.toNat ((cq.mk (ix a b).pc ((ix a b).r.set c.A c.B) (ix a b).state (ix a b).when (ix a b).seq):cq))) else none) else (bif (c.Op==2) then (bif ((decide ((0:Int)<=c.B))&&(decide (c.B<((8:Nat):Int)))) then (bif ((decide ((0:Int)<=c.A))&&(decide (c.A<((8:Nat):Int)))) then (gJ d (a.set b.toNat ((cq.mk (ix a b).pc ((ix a b).r.set c.A ((ix a b).r.get c.B)) (ix a b).state (ix a b).when (ix a b).seq):cq))) else none) else none) else (bif (c.Op==3) then (bif ((decide ((0:Int)<=c.A))&&(decide (c.A<((8:Nat):Int)))) then (bif ((decide ((0:Int)<=c.B))&&(decide (c.B<((8:Nat):Int)))) then (gJ d (a.set b.toNat ((cq.mk (ix a b).pc ((ix a b).r.set c.A (i64.wrap (((ix a b).r.get c.A)+((ix a b).r.get c.B)))) (ix a b).state (ix a b).when (ix a b).seq):cq))) else none) else none) else (bif (c.Op==4) then (bif ((decide ((0:Int)<=c.A))&&(decide (c.A<((8:Nat):Int)))) then (bif ((decide ((0:Int)<=c.B))&&(decide (c.B<((8:Nat):Int)))) then (gJ d (a.set b.toNat ((cq.mk (ix a b).pc ((ix a b).r.set c.A (i64.wrap (((ix a b).r.get c.A)-((ix a b).r.get c.B)))) (ix a b).state (ix a b).when (ix a b).seq):cq))) else none) else none) else (bif (c.Op==5) then (bif ((decide ((0:Int)<=c.A))&&(decide (c.A<((8:Nat):Int)))) then (bif ((decide ((0:Int)<=c.B))&&(decide (c.B<((8:Nat):Int)))) then (gJ d (a.set b.toNat ((cq.mk (ix a b).pc ((ix a b).r.set c.A (mQ [(true,1)] (decide (((ix a b).r.get c.A)<((ix a b).r.get c.B))))) (ix a b).state (ix a b).when (ix a b).seq):cq))) else none) else none) else (bif (c.Op==6) then (some (c.A,a)) else (bif (c.Op==7) then (bif ((decide ((0:Int)<=c.A))&&(decide (c.A<((8:Nat):Int)))) then (bif (((ix a b).r.get c.A)==0) then (some (c.B,a)) else (gJ d a)) else none) else (gJ d a)))))))) else none)
def dq (t c b a:Int) (d:List cy):Option ((List cy)):=(bif (decide ((d++([(cy.mk t c b a)]:List cy)).length*32<=140737488355328)) then (some ((d++([(cy.mk t c b a)]:List cy)))) else none)
def i4 (c t:Int) (b:List cq) (d:List bV) (e:List Int):Option (Bool×List Int×List cq×List bV):=(bif (decide (0<=c/\c<(d.length:Int))) then ((dL t b).bind λa=>(bif (decide (0<=a/\a<(b.length:Int))) then (bif (decide ((e++([t]:List Int)).length*8<=140737488355328)) then (some (false,(e++([t]:List Int)),(b.set a.toNat ((cq.mk (i64.wrap ((ix b a).pc+1)) (ix b a).r (ix b a).state (ix b a).when (ix b a).seq):cq)),(d.set c.toNat ((bV.mk 0 (ix d c).Ring_Next (ix d c).Ring_List):bV)))) else none) else none)) else none)
def i5 (s:List Int) (v:Int):Int->Option (((Int) ⊕ (Int))):=λa=>(bif (decide (a<(s.length:Int))) then (bif ((decide ((0:Int)<=a))&&(decide (a<(s.length:Int)))) then (bif (v==(ix s a)) then (Option.map Sum.inr (some (a))) else (some (Sum.inl ((i64.wrap (a+1)))))) else none) else (Option.map Sum.inr (some ((-1)))))
def nv (s:List Int) (v:Int):Option (Int):=(dE (i5 s v) (0))
def ig (s:List Int) (v:Int):Option (Bool):=((nv s v).bind λa=>(some ((decide ((0:Int)<=a)))))
def rj (t:Int) (b:List Int):Option ((List Int)×List Int):=(bif (decide ((b.length:Int)<256)) then (bif (decide ((b++([t]:List Int)).length*8<=140737488355328)) then (some ([],(b++([t]:List Int)))) else none) else (bif (decide ((128:Int)<=(b.length:Int))) then ((fg (cut b (0:Int) (128:Int))).bind λa=>(bif (decide ((a++([t]:List Int)).length*8<=140737488355328)) then (bif (decide ((128:Int)<=(b.length:Int))) then ((fg (cut b (128:Int) (b.length:Int))).bind λc=>(some ((a++([t]:List Int)),c))) else none) else none)) else none))
def pf (c a:Int) (d:List Int):Option (Int×cE×List Int×List Int):=((rj c d).bind λb=>(some (a,(cE.mk 0 0),b.2,b.1)))
def qS (q:fA) (a:Int) (d:Bool):Option (Int×cE×List Int×List Int):=((kz q).bind λc=>(bif (c.Code != 0) then (some (0,c,[],[])) else (bif (decide (a<1)) then ((ii 3 (-1)).bind λe=>(some (0,e,[],[]))) else ((mH q).bind λg=>((ig g a).bind λh=>(bif h then ((ii 10 (-1)).bind λf=>(some (0,f,[],[]))) else ((kA q).bind λb=>(bif d then (bif (q.Next==0) then (some (a,(cE.mk 0 0),b,[])) else (pf q.Next a b)) else (pf a q.Next b)))))))))
def i6 (d t:Int) (c:List cq) (e:List bV) (f:List Int):Option ((List Int)×List cq×List bV):=(bif (decide (0<=d/\d<(e.length:Int))) then ((qS (fA.mk (ix e d).Ring_Next (ix e d).Ring_List) t true).bind λb=>(bif (decide ((f++b.2.2.2).length*8<=140737488355328)) then ((dL t c).bind λa=>(bif (decide (0<=a/\a<(c.length:Int))) then (some ((f++b.2.2.2),(c.set a.toNat ((cq.mk (ix c a).pc (ix c a).r 0 (ix c a).when (ix c a).seq):cq)),(e.set d.toNat ((bV.mk (ix e d).now b.1 b.2.2.1):bV)))) else none)) else none)) else none)
def jf (a b:Int):Option (cE):=(some ((cE.mk a b)))
def py (l:List cI):Int×(List (Int×Int))->Option (((Int×(List (Int×Int))) ⊕ (Int×(List (Int×Int))))):=λ(a,b)=>(bif (decide (a<(l.length:Int))) then (bif ((decide ((0:Int)<=a))&&(decide (a<(l.length:Int)))) then (bif ((decide ((ix l a).Task<1))||(decide ((ix l a).Case<0))) then (Option.map Sum.inr (some (3,b))) else (bif (decide ((0:Int)<(fY b (ix l a).Task))) then (Option.map Sum.inr (some (10,b))) else (some (Sum.inl ((i64.wrap (a+1)),(iw b (ix l a).Task 1)))))) else none) else (Option.map Sum.inr (some (0,b))))
def qm (l:List cI) (a:(List (Int×Int))):Option (Int×(List (Int×Int))):=(dE (py l) (0,a))
def nH (p:cR):Int->Option (((Int) ⊕ (cE))):=λa=>(bif (decide (a<(p.Getters.length:Int))) then (bif ((decide ((0:Int)<=a))&&(decide (a<(p.Getters.length:Int)))) then (bif ((ix p.Getters a).Value != 0) then ((jf 5 2).bind λb=>(Option.map Sum.inr (some (b)))) else (some (Sum.inl ((i64.wrap (a+1)))))) else none) else (Option.map Sum.inr (some ((cE.mk 0 0)))))
def oO (p:cR):Option (cE):=(bif (decide ((5000:Int)<(i64.wrap ((i64.wrap ((p.Items.length:Int)+(p.Senders.length:Int)))+(p.Getters.length:Int))))) then ((jf 2 0).bind λc=>(some (c))) else (bif ((decide (p.Cap<0))||(decide ((1000:Int)<p.Cap))) then ((jf 3 0).bind λe=>(some (e))) else (bif (decide (p.Cap<(p.Items.length:Int))) then ((jf 8 0).bind λd=>(some (d))) else (bif (bif (decide ((0:Int)<(p.Senders.length:Int))) then (p.Closed||((decide ((p.Items.length:Int)<p.Cap))||((decide ((0:Int)<(p.Getters.length:Int)))||((decide ((0:Int)<(p.Getters.length:Int)))&&(p.Closed||(decide ((0:Int)<(p.Items.length:Int)))))))) else ((decide ((0:Int)<(p.Getters.length:Int)))&&(p.Closed||(decide ((0:Int)<(p.Items.length:Int)))))) then ((jf 5 0).bind λg=>(some (g))) else ((qm p.Senders []).bind λa=>(bif (a.1 != 0) then ((jf a.1 1).bind λh=>(some (h))) else ((qm p.Getters a.2).bind λb=>(bif (b.1 != 0) then ((jf b.1 2).bind λf=>(some (f))) else (dE (nH p) (0))))))))))
def qn (x:cI) (a:Int):Option (Bool):=(some ((x.Task==a)))
def iC (s:List cI) (f:Int):Int->Option (((Int) ⊕ (Int))):=λa=>(bif (decide (a<(s.length:Int))) then (bif ((decide ((0:Int)<=a))&&(decide (a<(s.length:Int)))) then ((qn (ix s a) f).bind λb=>(bif b then (Option.map Sum.inr (some (a))) else (some (Sum.inl ((i64.wrap (a+1))))))) else none) else (Option.map Sum.inr (some ((-1)))))
def kS (s:List cI) (f:Int):Option (Int):=(dE (iC s f) (0))
def gN (s:List cI) (f:Int):Option (Bool):=((kS s f).bind λa=>(some ((decide ((0:Int)<=a)))))
def nI (a:Bool):Option (Bool):=(some (a))
def si (p:cR) (a:Int):Option (Bool):=((gN p.Senders a).bind λb=>(bif b then (nI true) else ((gN p.Getters a).bind λc=>(nI c))))
def oP (p:cR) (a:Int):Option (cE):=((oO p).bind λb=>(bif (b.Code != 0) then (some (b)) else (bif (decide (a<1)) then ((jf 3 (-1)).bind λf=>(some (f))) else ((si p a).bind λc=>(bif c then ((jf 10 (-1)).bind λe=>(some (e))) else (bif ((i64.wrap ((i64.wrap ((p.Items.length:Int)+(p.Senders.length:Int)))+(p.Getters.length:Int)))==5000) then ((jf 9 0).bind λd=>(some (d))) else (some ((cE.mk 0 0)))))))))
def jX (s:List cI):Option ((List cI)):=(bif (decide ((([]:List cI)++s).length*24<=140737488355328)) then (some ((([]:List cI)++s))) else none)
def ou (p:cR):Option ((List Int)×List cI×List cI):=((fg p.Items).bind λc=>((jX p.Senders).bind λb=>((jX p.Getters).bind λa=>(some (c,b,a)))))
def sj (x:cI) (c:Int) (a:Bool) (d:List Int) (b:List cI):Option (Bool×Bool×Int×List dc×List Int×List cI):=(bif a then (some (true,true,x.Case,[],d,b)) else (bif (decide ((0:Int)<(b.length:Int))) then (bif (decide ((0:Int)<(b.length:Int))) then (bif (decide ((1:Int)<=(b.length:Int))) then (some (true,false,x.Case,([(dc.mk (ix b (0:Int)).Task (ix b (0:Int)).Case x.Value true false)]:List dc),d,(cut b (1:Int) (b.length:Int)))) else none) else none) else (bif (decide ((d.length:Int)<c)) then (bif (decide ((d++([x.Value]:List Int)).length*8<=140737488355328)) then (some (true,false,x.Case,[],(d++([x.Value]:List Int)),b)) else none) else (some (false,false,0,[],d,b)))))
def ov (p:cR) (c a:Bool) (b:Int) (d:List Int) (e g:List cI) (f:List dc):Option (Int×Bool×Bool×Bool×Int×cE×List Int×List cI×List cI×List dc):=(some (p.Cap,p.Closed,c,a,b,(cE.mk 0 0),d,e,g,f))
def mz (p:cR) (c d:Int) (f:Bool):Option (Int×Bool×Bool×Bool×Int×cE×List Int×List cI×List cI×List dc):=((oP p c).bind λe=>(bif (e.Code != 0) then (some (0,false,false,false,0,e,[],[],[],[])) else ((ou p).bind λb=>((sj (cI.mk c 0 d) p.Cap p.Closed b.1 b.2.2).bind λa=>(bif ((!a.1)&&(!f)) then (bif (decide ((b.2.1++([(cI.mk c 0 d)]:List cI)).length*24<=140737488355328)) then (ov p a.1 a.2.1 a.2.2.1 a.2.2.2.2.1 (b.2.1++([(cI.mk c 0 d)]:List cI)) a.2.2.2.2.2 a.2.2.2.1) else none) else (ov p a.1 a.2.1 a.2.2.1 a.2.2.2.2.1 b.2.1 a.2.2.2.2.2 a.2.2.2.1))))))
def dH (t b:Int) (c:List cy):Option ((List cy)):=((dq t 22 b 0 c).bind λa=>(some (a)))
def f9 (t:Int) (b:List cq):Option (Bool×List cq):=((dL t b).bind λa=>(bif (decide (0<=a/\a<(b.length:Int))) then (some (false,(b.set a.toNat ((cq.mk (ix b a).pc (ix b a).r 1 (ix b a).when (ix b a).seq):cq)))) else none))
def gG (t:Int) (d:df) (c:Int) (g:Bool) (f:List cy) (b:List cq):Option ((List cy)×List cq):=((dL t b).bind λa=>(bif (decide (0<=a/\a<(b.length:Int))) then (bif ((decide ((0:Int)<=d.A))&&(decide (d.A<((8:Nat):Int)))) then ((dq t 15 d.B c f).bind λe=>((λz0:List cq=>(some (e,(z0.set a.toNat ((cq.mk (ix z0 a).pc ((ix z0 a).r.set (7:Int) (mQ [(true,1)] g)) (ix z0 a).state (ix z0 a).when (ix z0 a).seq):cq))))) (b.set a.toNat ((cq.mk (ix b a).pc ((ix b a).r.set d.A c) (ix b a).state (ix b a).when (ix b a).seq):cq)))) else none) else none))
def fZ (d t:Int) (c:List cq) (e:List bV) (f:List Int):Option ((List Int)×List cq×List bV):=(bif (decide (0<=d/\d<(e.length:Int))) then ((dL t c).bind λa=>(bif (decide (0<=a/\a<(c.length:Int))) then ((i6 d t (c.set a.toNat ((cq.mk (i64.wrap ((ix c a).pc+1)) (ix c a).r (ix c a).state (ix c a).when (ix c a).seq):cq)) e f).bind λb=>(bif (decide (0<=d/\d<(b.2.2.length:Int))) then (some (b.1,b.2.1,b.2.2)) else none)) else none)) else none)
def h_ (g:Int) (l:List dc) (b:Int) (d:List bV) (e:List Int) (f:List cq) (c:List cy):Option (((Int×List cq×List bV×List cy×List Int) ⊕ (Int×List cy×List Int×List cq×List bV))):=(bif (decide (0<=g/\g<(d.length:Int))) then ((fZ g (ix l b).Task f d e).bind λa=>(bif (decide (0<=g/\g<(a.2.2.length:Int))) then (some (Sum.inl ((i64.wrap (b+1)),a.2.1,a.2.2,c,a.1))) else none)) else none)
def fc (n p:Int) (l:List dc) (a:List df) (e:Int):Int×List cq×List bV×List cy×(List Int)->Option (((Int×List cq×List bV×List cy×List Int) ⊕ (Int×List cy×List Int×List cq×List bV))):=λ(c,b,h,g,f)=>(bif (decide (0<=n/\n<(h.length:Int))) then (bif (decide (c<(l.length:Int))) then (bif ((decide ((0:Int)<=c))&&(decide (c<(l.length:Int)))) then ((dL (ix l c).Task b).bind λd=>(bif (decide (0<=d/\d<(b.length:Int))) then (bif ((decide ((0:Int)<=(ix b d).pc))&&(decide ((ix b d).pc<(a.length:Int)))) then (bif (ix l c).Panic then ((dH (ix l c).Task p g).bind λm=>(Option.map Sum.inr (some (2,m,f,b,h)))) else (bif ((ix a (ix b d).pc).Op==14) then ((dL (ix l c).Task b).bind λi=>(bif (decide (0<=i/\i<(b.length:Int))) then (bif ((decide ((0:Int)<=(ix a (ix b d).pc).B))&&(decide ((ix a (ix b d).pc).B<((8:Nat):Int)))) then ((dq (ix l c).Task (ix a (ix b d).pc).Op p ((ix b i).r.get (ix a (ix b d).pc).B) g).bind λk=>(h_ n l c h f b k)) else none) else none)) else ((gG (ix l c).Task (ix a (ix b d).pc) (ix l c).Value (ix l c).Ok g b).bind λj=>(h_ n l c h f j.2 j.1)))) else none) else none)) else none) else (Option.map Sum.inr (some (e,g,f,b,h)))) else none)
def dG (c p:Int) (l:List dc) (a:List df) (b:Int) (e:List cy) (g:List cq) (d:List bV) (f:List Int):Option (Int×List cy×List Int×List cq×List bV):=(bif (decide (0<=c/\c<(d.length:Int))) then (dE (fc c p l a b) (0,g,d,e,f)) else none)
def ld (x:cI) (b:Bool) (a:List Int) (c:List cI) (d:List dc):Option (Bool×Bool×Int×Int×List dc×List Int×List cI):=(bif (decide ((0:Int)<(a.length:Int))) then (bif (decide ((0:Int)<(a.length:Int))) then (bif (decide ((1:Int)<=(a.length:Int))) then (some (true,true,(ix a (0:Int)),x.Case,d,(cut a (1:Int) (a.length:Int)),c)) else none) else none) else (bif b then (some (true,false,0,x.Case,[],a,c)) else (some (false,false,0,0,[],a,c))))
def sk (x:cI) (a:Bool) (c:List Int) (b:List cI):Option (Bool×Bool×Int×Int×List dc×List Int×List cI):=(bif (decide ((0:Int)<(b.length:Int))) then (bif (decide ((0:Int)<(b.length:Int))) then (bif (decide ((1:Int)<=(b.length:Int))) then (bif (decide ((c++([(ix b (0:Int)).Value]:List Int)).length*8<=140737488355328)) then (ld x a (c++([(ix b (0:Int)).Value]:List Int)) (cut b (1:Int) (b.length:Int)) ([(dc.mk (ix b (0:Int)).Task (ix b (0:Int)).Case 0 false false)]:List dc)) else none) else none) else none) else (ld x a c b []))
def ph (p:cR) (c d:Bool) (a b:Int) (e:List Int) (f h:List cI) (g:List dc):Option (Int×Bool×Bool×Bool×Int×Int×cE×List Int×List cI×List cI×List dc):=(some (p.Cap,p.Closed,c,d,a,b,(cE.mk 0 0),e,f,h,g))
def lS (p:cR) (c:Int) (e:Bool):Option (Int×Bool×Bool×Bool×Int×Int×cE×List Int×List cI×List cI×List dc):=((oP p c).bind λd=>(bif (d.Code != 0) then (some (0,false,false,false,0,0,d,[],[],[],[])) else ((ou p).bind λb=>((sk (cI.mk c 0 0) p.Closed b.1 b.2.1).bind λa=>(bif ((!a.1)&&(!e)) then (bif (decide ((b.2.2++([(cI.mk c 0 0)]:List cI)).length*24<=140737488355328)) then (ph p a.1 a.2.1 a.2.2.1 a.2.2.2.1 a.2.2.2.2.2.1 a.2.2.2.2.2.2 (b.2.2++([(cI.mk c 0 0)]:List cI)) a.2.2.2.2.1) else none) else (ph p a.1 a.2.1 a.2.2.1 a.2.2.2.1 a.2.2.2.2.2.1 a.2.2.2.2.2.2 b.2.2 a.2.2.2.2.1))))))
def mY (c:List cI):Int×(List dc)->Option (((Int×List dc) ⊕ (Bool×List dc×Bool×List cI×List cI))):=λ(a,b)=>(bif (decide (a<(c.length:Int))) then (bif ((decide ((0:Int)<=a))&&(decide (a<(c.length:Int)))) then (bif (decide ((b++([(dc.mk (ix c a).Task (ix c a).Case 0 false true)]:List dc)).length*32<=140737488355328)) then (some (Sum.inl ((i64.wrap (a+1)),(b++([(dc.mk (ix c a).Task (ix c a).Case 0 false true)]:List dc))))) else none) else none) else (Option.map Sum.inr (some (false,b,true,[],[]))))
def mZ (d c:List cI):Int×(List dc)->Option (((Int×List dc) ⊕ (Bool×List dc×Bool×List cI×List cI))):=λ(a,b)=>(bif (decide (a<(c.length:Int))) then (bif ((decide ((0:Int)<=a))&&(decide (a<(c.length:Int)))) then (bif (decide ((b++([(dc.mk (ix c a).Task (ix c a).Case 0 false false)]:List dc)).length*32<=140737488355328)) then (some (Sum.inl ((i64.wrap (a+1)),(b++([(dc.mk (ix c a).Task (ix c a).Case 0 false false)]:List dc))))) else none) else none) else (Option.map Sum.inr (dE (mY d) (0,b))))
def rm (a:Bool) (c b:List cI):Option (Bool×List dc×Bool×List cI×List cI):=(bif a then (some (true,[],a,c,b)) else (dE (mZ c b) (0,[])))
def ow (p:cR):Option (Int×Bool×Bool×Bool×cE×List Int×List cI×List cI×List dc):=((oO p).bind λc=>(bif (c.Code != 0) then (some (0,false,false,false,c,[],[],[],[])) else ((ou p).bind λb=>((rm p.Closed b.2.1 b.2.2).bind λa=>(some (p.Cap,a.2.2.1,true,a.1,(cE.mk 0 0),b.1,a.2.2.2.1,a.2.2.2.2,a.2.1))))))
def d6 (a:Int) (c:List cy) (b:List Int) (e:List cq) (f:List bV) (d:List cR):Option (Bool×Int×List cy×List Int×List cq×List bV×List cR):=(some (true,a,c,b,e,f,d))
def fd (l t:Int) (j:df) (b:List df) (m:List cR) (a:Int) (k:List cq) (f:List bV) (h:List cR) (e:lh) (i:List cy) (g:List Int):Option (Bool×Int×List cy×List Int×List cq×List bV×List cR):=(bif (decide (0<=l/\l<(f.length:Int))) then ((gG t j e.Value e.Ok i k).bind λd=>(bif (decide ((0:Int)<(((ix m j.B).Items.length:Nat):Int))) then ((dG l j.B e.Wakes b a d.1 d.2 f g).bind λc=>(bif (decide (0<=l/\l<(c.2.2.2.2.length:Int))) then (d6 c.1 c.2.1 c.2.2.1 c.2.2.2.1 c.2.2.2.2 h) else none)) else (d6 a d.1 g d.2 f h))) else none)
def ez (n t:Int) (c:df) (d:List df) (a:Int) (s:List cy) (m:List cq) (p:List bV) (q:List Int) (k:List cR):Option (Bool×Int×List cy×List Int×List cq×List bV×List cR):=(bif (decide (0<=n/\n<(p.length:Int))) then ((dL t m).bind λg=>(bif (decide (0<=g/\g<(m.length:Int))) then (bif (c.Op==14) then (bif ((decide ((0:Int)<=c.A))&&(decide (c.A<(k.length:Int)))) then (bif ((decide ((0:Int)<=c.B))&&(decide (c.B<((8:Nat):Int)))) then ((mz (ix k c.A) t ((ix m g).r.get c.B) false).bind λe=>(bif ((decide ((0:Int)<=c.A))&&(decide (c.A<(k.length:Int)))) then ((λz1:List cR=>(bif e.2.2.2.1 then ((dH t c.A s).bind λx=>(some (false,2,x,q,m,p,z1))) else (bif (!e.2.2.1) then ((f9 t m).bind λl=>(bif (decide (0<=g/\g<(l.2.length:Int))) then (some (l.1,a,s,q,l.2,p,z1)) else none)) else ((dq t c.Op c.A ((ix m g).r.get c.B) s).bind λu=>((dG n c.A e.2.2.2.2.2.2.2.2.2 d a u m p q).bind λi=>(bif (decide (0<=n/\n<(i.2.2.2.2.length:Int))) then (d6 i.1 i.2.1 i.2.2.1 i.2.2.2.1 i.2.2.2.2 z1) else none)))))) (k.set c.A.toNat ((cR.mk e.1 e.2.2.2.2.2.2.1 e.2.1 e.2.2.2.2.2.2.2.1 e.2.2.2.2.2.2.2.2.1):cR))) else none)) else none) else none) else (bif (c.Op==15) then (bif ((decide ((0:Int)<=c.B))&&(decide (c.B<(k.length:Int)))) then (bif ((decide ((0:Int)<=c.B))&&(decide (c.B<(k.length:Int)))) then ((lS (ix k c.B) t false).bind λb=>(bif ((decide ((0:Int)<=c.B))&&(decide (c.B<(k.length:Int)))) then ((λz0:List cR=>(bif (!b.2.2.1) then ((f9 t m).bind λo=>(some (o.1,a,s,q,o.2,p,z0))) else (bif (!(decide ((0:Int)<(((ix k c.B).Items.length:Nat):Int)))) then ((dG n c.B b.2.2.2.2.2.2.2.2.2.2 d a s m p q).bind λh=>(bif (decide (0<=n/\n<(h.2.2.2.2.length:Int))) then (fd n t c d k h.1 h.2.2.2.1 h.2.2.2.2 z0 (lh.mk b.2.2.1 false b.2.2.2.1 b.2.2.2.2.1 b.2.2.2.2.2.1 b.2.2.2.2.2.2.2.2.2.2) h.2.1 h.2.2.1) else none)) else (fd n t c d k a m p z0 (lh.mk b.2.2.1 false b.2.2.2.1 b.2.2.2.2.1 b.2.2.2.2.2.1 b.2.2.2.2.2.2.2.2.2.2) s q)))) (k.set c.B.toNat ((cR.mk b.1 b.2.2.2.2.2.2.2.1 b.2.1 b.2.2.2.2.2.2.2.2.1 b.2.2.2.2.2.2.2.2.2.1):cR))) else none)) else none) else none) else (bif (c.Op==16) then (bif ((decide ((0:Int)<=c.A))&&(decide (c.A<(k.length:Int)))) then ((ow (ix k c.A)).bind λf=>(bif ((decide ((0:Int)<=c.A))&&(decide (c.A<(k.length:Int)))) then ((λz2:List cR=>(bif f.2.2.2.1 then ((dH t c.A s).bind λw=>(some (false,2,w,q,m,p,z2))) else ((dq t c.Op c.A 0 s).bind λv=>((dG n c.A f.2.2.2.2.2.2.2.2 d a v m p q).bind λj=>(bif (decide (0<=n/\n<(j.2.2.2.2.length:Int))) then (d6 j.1 j.2.1 j.2.2.1 j.2.2.2.1 j.2.2.2.2 z2) else none))))) (k.set c.A.toNat ((cR.mk f.1 f.2.2.2.2.2.1 f.2.1 f.2.2.2.2.2.2.1 f.2.2.2.2.2.2.2.1):cR))) else none)) else none) else (d6 a s q m p k)))) else none)) else none)
def jQ (a b:Int):Option (cE):=(some ((cE.mk a b)))
def nJ (l:di):Int×(List (Int×Int))->Option (((Int×(List (Int×Int))) ⊕ (cE))):=λ(a,b)=>(bif (decide (a<(l.Line.length:Int))) then (bif ((decide ((0:Int)<=a))&&(decide (a<(l.Line.length:Int)))) then (bif (decide ((ix l.Line a).Task<1)) then ((jQ 3 (i64.wrap (a+1))).bind λd=>(Option.map Sum.inr (some (d)))) else (bif (decide ((0:Int)<(fY b (ix l.Line a).Task))) then ((jQ 10 (i64.wrap (a+1))).bind λc=>(Option.map Sum.inr (some (c)))) else (bif ((ix l.Line a).N != 0) then ((jQ 5 (i64.wrap (a+1))).bind λe=>(Option.map Sum.inr (some (e)))) else (some (Sum.inl ((i64.wrap (a+1)),(iw b (ix l.Line a).Task 1))))))) else none) else (Option.map Sum.inr (some ((cE.mk 0 0)))))
def oQ (l:di):Option (cE):=(bif (decide ((5000:Int)<(l.Line.length:Int))) then ((jQ 2 0).bind λa=>(some (a))) else (bif ((decide (l.Readers<0))||(decide ((1000000000:Int)<l.Readers))) then ((jQ 3 0).bind λb=>(some (b))) else (bif ((!((((l.Writer&&(!(decide ((0:Int)<l.Readers))))&&(decide ((0:Int)<(l.Line.length:Int))))&&(!l.Writer))&&(!(l.Readers==0))))||(decide ((0:Int)<(l.Line.length:Int)))) then (bif ((!((((!l.Writer)&&(decide ((0:Int)<(l.Line.length:Int))))&&(!l.Writer))&&(!(l.Readers==0))))||(decide ((0:Int)<(l.Line.length:Int)))) then (bif (bif l.Writer then ((decide ((0:Int)<l.Readers))||((decide ((0:Int)<(l.Line.length:Int)))&&((!l.Writer)&&((l.Readers==0)||(!(ix l.Line (0:Int)).Write))))) else ((decide ((0:Int)<(l.Line.length:Int)))&&((!l.Writer)&&((l.Readers==0)||(!(ix l.Line (0:Int)).Write))))) then ((jQ 5 0).bind λc=>(some (c))) else (dE (nJ l) (0,[]))) else none) else none)))
def qo (w:dR) (a:Int):Option (Bool):=(some ((w.Task==a)))
def iD (s:List dR) (f:Int):Int->Option (((Int) ⊕ (Int))):=λa=>(bif (decide (a<(s.length:Int))) then (bif ((decide ((0:Int)<=a))&&(decide (a<(s.length:Int)))) then ((qo (ix s a) f).bind λb=>(bif b then (Option.map Sum.inr (some (a))) else (some (Sum.inl ((i64.wrap (a+1))))))) else none) else (Option.map Sum.inr (some ((-1)))))
def kT (s:List dR) (f:Int):Option (Int):=(dE (iD s f) (0))
def iE (s:List dR) (f:Int):Option (Bool):=((kT s f).bind λa=>(some ((decide ((0:Int)<=a)))))
def mR (s:List dR):Option ((List dR)):=(bif (decide ((([]:List dR)++s).length*24<=140737488355328)) then (some ((([]:List dR)++s))) else none)
def lC (l:di):Option ((List dR)):=((mR l.Line).bind λa=>(some (a)))
def n4 (d:List Int) (a:Int) (b:Bool) (c:List dR):Option ((List Int)×Int×Bool×List dR):=(some (d,a,b,c))
def jR:Int×Bool×List Int×(List dR)->Option (((Int×Bool×List Int×List dR) ⊕ ((List Int)×Int×Bool×List dR))):=λ(b,c,d,a)=>(bif ((decide ((0:Int)<(a.length:Int)))&&(!c)) then (bif (decide ((0:Int)<(a.length:Int))) then (bif ((ix a (0:Int)).Write&&(decide ((0:Int)<b))) then (Option.map Sum.inr (n4 d b c a)) else (bif (decide ((1:Int)<=(a.length:Int))) then (bif (decide ((d++([(ix a (0:Int)).Task]:List Int)).length*8<=140737488355328)) then (bif (!(ix a (0:Int)).Write) then (some (Sum.inl ((i64.wrap (b+1)),(ix a (0:Int)).Write,(d++([(ix a (0:Int)).Task]:List Int)),(cut a (1:Int) (a.length:Int))))) else (some (Sum.inl (b,(ix a (0:Int)).Write,(d++([(ix a (0:Int)).Task]:List Int)),(cut a (1:Int) (a.length:Int)))))) else none) else none)) else none) else (Option.map Sum.inr (n4 d b c a)))
def kL (a:Int) (b:Bool) (c:List dR):Option ((List Int)×Int×Bool×List dR):=(dE jR (a,b,[],c))
def mA (l:di) (b:Int) (d m:Bool):Option (Int×Bool×Bool×cE×List dR):=((oQ l).bind λc=>(bif (c.Code != 0) then (some (0,false,false,c,[])) else (bif (decide (b<1)) then ((jQ 3 (-1)).bind λk=>(some (0,false,false,k,[]))) else ((iE l.Line b).bind λi=>(bif i then ((jQ 10 (-1)).bind λf=>(some (0,false,false,f,[]))) else (bif (((l.Line.length:Int)==5000)||(l.Readers==1000000000)) then ((jQ 9 0).bind λj=>(some (0,false,false,j,[]))) else ((lC l).bind λe=>(bif (decide ((e++([(dR.mk b d 0)]:List dR)).length*24<=140737488355328)) then ((kL l.Readers l.Writer (e++([(dR.mk b d 0)]:List dR))).bind λa=>((ig a.1 b).bind λg=>(bif g then (some (a.2.1,a.2.2.1,true,(cE.mk 0 0),a.2.2.2)) else (bif m then ((lC l).bind λh=>(some (l.Readers,l.Writer,false,(cE.mk 0 0),h))) else (some (a.2.1,a.2.2.1,false,(cE.mk 0 0),a.2.2.2)))))) else none))))))))
def nK (a:Int) (c:Bool) (d:List dR):Option (Int×Bool×Bool×cE×List dR×List Int):=((kL a c d).bind λb=>(some (b.2.1,b.2.2.1,false,(cE.mk 0 0),b.2.2.2,b.1)))
def nw (l:di) (a:Bool):Option (Int×Bool×Bool×cE×List dR×List Int):=((oQ l).bind λb=>(bif (b.Code != 0) then (some (0,false,false,b,[],[])) else (bif (bif a then ((!l.Writer)||((!a)&&(l.Readers==0))) else ((!a)&&(l.Readers==0))) then ((lC l).bind λd=>(some (l.Readers,l.Writer,true,(cE.mk 0 0),d,[]))) else ((lC l).bind λc=>(bif a then (nK l.Readers false c) else (nK (i64.wrap (l.Readers-1)) l.Writer c))))))
def jg (a b:Int):Option (cE):=(some ((cE.mk a b)))
def qp (l:List Int):Int×(List (Int×Int))->Option (((Int×(List (Int×Int))) ⊕ (cE))):=λ(a,b)=>(bif (decide (a<(l.length:Int))) then (bif ((decide ((0:Int)<=a))&&(decide (a<(l.length:Int)))) then (bif (decide ((ix l a)<1)) then ((jg 3 (i64.wrap (a+1))).bind λd=>(Option.map Sum.inr (some (d)))) else (bif (decide ((0:Int)<(fY b (ix l a)))) then ((jg 10 (i64.wrap (a+1))).bind λc=>(Option.map Sum.inr (some (c)))) else (some (Sum.inl ((i64.wrap (a+1)),(iw b (ix l a) 1)))))) else none) else (Option.map Sum.inr (some ((cE.mk 0 0)))))
def rM (l:List Int):Option (cE):=(bif (decide ((5000:Int)<(l.length:Int))) then ((jg 2 0).bind λa=>(some (a))) else (dE (qp l) (0,[])))
def oR (g:cX):Option (cE):=((rM g.Line).bind λa=>(bif (a.Code != 0) then (some (a)) else (bif ((decide (g.Count<0))||(decide ((1000000000:Int)<g.Count))) then ((jg 3 0).bind λc=>(some (c))) else (bif ((g.Count==0)&&(decide ((0:Int)<(g.Line.length:Int)))) then ((jg 5 0).bind λb=>(some (b))) else (some ((cE.mk 0 0)))))))
def ny (g:cX) (n:Int):Option (Int×Bool×cE×List Int×List Int):=((oR g).bind λb=>(bif (b.Code != 0) then (some (0,false,b,[],[])) else (bif ((decide (n<(-1000000000)))||(decide ((1000000000:Int)<n))) then ((jg 3 (-1)).bind λd=>(some (0,false,d,[],[]))) else ((fg g.Line).bind λa=>(bif (decide ((i64.wrap (g.Count+n))<0)) then (some (g.Count,true,(cE.mk 0 0),a,[])) else (bif (decide ((1000000000:Int)<(i64.wrap (g.Count+n)))) then ((jg 9 0).bind λc=>(some (0,false,c,[],[]))) else (bif ((i64.wrap (g.Count+n))==0) then (some (0,false,(cE.mk 0 0),[],a)) else (some ((i64.wrap (g.Count+n)),false,(cE.mk 0 0),a,[])))))))))
def qq (l:List Int) (a:Int):Option (cE):=(bif (decide (a<1)) then ((jg 3 (-1)).bind λe=>(some (e))) else ((ig l a).bind λc=>(bif c then ((jg 10 (-1)).bind λb=>(some (b))) else (bif ((l.length:Int)==5000) then ((jg 9 0).bind λd=>(some (d))) else (some ((cE.mk 0 0)))))))
def mf (g:cX) (a:List Int):Option (Int×Bool×cE×List Int):=(some (g.Count,(g.Count==0),(cE.mk 0 0),a))
def nL (g:cX) (b:Int) (c:cE):Option (Int×Bool×cE×List Int):=(bif (c.Code != 0) then (some (0,false,c,[])) else ((fg g.Line).bind λa=>(bif (decide ((0:Int)<g.Count)) then (bif (decide ((a++([b]:List Int)).length*8<=140737488355328)) then (mf g (a++([b]:List Int))) else none) else (mf g a))))
def nA (g:cX) (a:Int):Option (Int×Bool×cE×List Int):=((oR g).bind λb=>(bif (b.Code==0) then ((qq g.Line a).bind λc=>(nL g a c)) else (nL g a b)))
def fu (a:Int) (g:List cy) (d:List Int) (e:List cq) (f:List bV) (c:List di) (b:List cX):Option (Bool×Int×List cy×List Int×List cq×List bV×List di×List cX):=(some (true,a,g,d,e,f,c,b))
def ia (n:Int) (o:df) (a:List df) (e:Int) (p:List cX):Int×Int×List cq×List bV×List di×List Int×List cy×(List Int)->Option (((Int×Int×List cq×List bV×List di×List Int×List cy×List Int) ⊕ (Bool×Int×List cy×List Int×List cq×List bV×List di×List cX))):=λ(h,b,c,i,j,d,k,l)=>(bif (decide (0<=n/\n<(i.length:Int))) then (bif (decide (b<h)) then (bif ((decide ((0:Int)<=b))&&(decide (b<(d.length:Int)))) then ((dL (ix d b) c).bind λf=>(bif (decide (0<=f/\f<(c.length:Int))) then (bif ((decide ((0:Int)<=(ix c f).pc))&&(decide ((ix c f).pc<(a.length:Int)))) then ((dq (ix d b) 17 o.A (ix a (ix c f).pc).B k).bind λm=>((fZ n (ix d b) c i l).bind λg=>(bif (decide (0<=n/\n<(g.2.2.length:Int))) then (some (Sum.inl (h,(i64.wrap (b+1)),g.2.1,g.2.2,j,d,m,g.1))) else none))) else none) else none)) else none) else (Option.map Sum.inr (fu e k l c i j p))) else none)
def ib (l:Int) (m:df) (b:Int) (n:List di):Int×Int×List cq×List bV×List cX×List Int×List cy×(List Int)->Option (((Int×Int×List cq×List bV×List cX×List Int×List cy×List Int) ⊕ (Bool×Int×List cy×List Int×List cq×List bV×List di×List cX))):=λ(e,a,j,f,h,c,i,g)=>(bif (decide (0<=l/\l<(f.length:Int))) then (bif (decide (a<e)) then (bif ((decide ((0:Int)<=a))&&(decide (a<(c.length:Int)))) then ((dq (ix c a) 20 m.A 0 i).bind λk=>((fZ l (ix c a) j f g).bind λd=>(bif (decide (0<=l/\l<(d.2.2.length:Int))) then (some (Sum.inl (e,(i64.wrap (a+1)),d.2.1,d.2.2,h,c,k,d.1))) else none))) else none) else (Option.map Sum.inr (fu b i g j f n h))) else none)
def eX (y t:Int) (b:df) (h:List df) (a:Int) (p:List cy) (k:List cq) (n:List bV) (o:List Int) (e:List di) (d:List cX):Option (Bool×Int×List cy×List Int×List cq×List bV×List di×List cX):=(bif (decide (0<=y/\y<(n.length:Int))) then ((dL t k).bind λj=>(bif (decide (0<=j/\j<(k.length:Int))) then (bif (b.Op==17) then (bif ((decide ((0:Int)<=b.A))&&(decide (b.A<(e.length:Int)))) then ((mA (ix e b.A) t (b.B==1) false).bind λf=>(bif ((decide ((0:Int)<=b.A))&&(decide (b.A<(e.length:Int)))) then ((λz1:List di=>(bif (!f.2.2.1) then ((f9 t k).bind λm=>(some (m.1,a,p,o,m.2,n,z1,d))) else ((dq t b.Op b.A b.B p).bind λu=>(fu a u o k n z1 d)))) (e.set b.A.toNat ((di.mk f.1 f.2.1 f.2.2.2.2):di))) else none)) else none) else (bif (b.Op==18) then (bif ((decide ((0:Int)<=b.A))&&(decide (b.A<(e.length:Int)))) then ((nw (ix e b.A) (b.B==1)).bind λc=>(bif ((decide ((0:Int)<=b.A))&&(decide (b.A<(e.length:Int)))) then ((λz0:List di=>(bif c.2.2.1 then ((dH t b.A p).bind λs=>(some (false,2,s,o,k,n,z0,d))) else ((dq t b.Op b.A b.B p).bind λv=>(dE (ia y b h a d) ((c.2.2.2.2.2.length:Int),0,k,n,z0,c.2.2.2.2.2,v,o))))) (e.set b.A.toNat ((di.mk c.1 c.2.1 c.2.2.2.2.1):di))) else none)) else none) else (bif (b.Op==19) then (bif ((decide ((0:Int)<=b.A))&&(decide (b.A<(d.length:Int)))) then (bif ((decide ((0:Int)<=b.B))&&(decide (b.B<((8:Nat):Int)))) then ((ny (ix d b.A) ((ix k j).r.get b.B)).bind λg=>(bif (g.2.1||(g.2.2.1.Code != 0)) then ((dH t b.A p).bind λw=>(some (false,2,w,o,k,n,e,d))) else (bif ((decide ((0:Int)<=b.A))&&(decide (b.A<(d.length:Int)))) then ((dq t b.Op b.A ((ix k j).r.get b.B) p).bind λq=>(dE (ib y b a e) ((g.2.2.2.2.length:Int),0,k,n,(d.set b.A.toNat ((cX.mk g.1 g.2.2.2.1):cX)),g.2.2.2.2,q,o))) else none))) else none) else none) else (bif (b.Op==20) then (bif ((decide ((0:Int)<=b.A))&&(decide (b.A<(d.length:Int)))) then ((nA (ix d b.A) t).bind λi=>(bif ((decide ((0:Int)<=b.A))&&(decide (b.A<(d.length:Int)))) then (bif (!i.2.1) then ((f9 t k).bind λl=>(some (l.1,a,p,o,l.2,n,e,(d.set b.A.toNat ((cX.mk i.1 i.2.2.2):cX))))) else ((dq t b.Op b.A 0 p).bind λx=>(fu a x o k n e (d.set b.A.toNat ((cX.mk i.1 i.2.2.2):cX))))) else none)) else none) else (fu a p o k n e d))))) else none)) else none)
def eS (a b:Int) (j:List cR) (i:List di) (h:List cX) (c:List cy) (e:List cq) (d f:List Int) (g:List bV):Option (Bool×Int×Int×List cy×List cq×List Int×List Int×List bV×List cR×List di×List cX):=(some (true,a,b,c,e,d,f,g,j,i,h))
def js (b:Int) (j:List Int) (g:List bV) (i:List Int) (h:List cR) (f:List di) (e:List cX) (a:Int) (c:List cy) (d:List cq):Option (Bool×Int×Int×List cy×List cq×List Int×List Int×List bV×List cR×List di×List cX):=(some (false,a,b,c,d,i,j,g,h,f,e))
def eu (m t:Int) (i:df) (g:List df) (d c e:Int) (v:List cy) (u:List Int) (b:List cq) (o:List bV) (s:List Int) (q:List cR) (k:List di) (j:List cX) (a:Int) (l:Bool):Option (Bool×Int×Int×List cy×List cq×List Int×List Int×List bV×List cR×List di×List cX):=(bif (decide (0<=m/\m<(o.length:Int))) then (bif (decide (0<=a/\a<(b.length:Int))) then (bif l then ((eX m t i g d v b o s k j).bind λf=>(bif (decide (0<=m/\m<(f.2.2.2.2.2.1.length:Int))) then (bif (decide (0<=a/\a<(f.2.2.2.2.1.length:Int))) then (some (f.1,f.2.1,e,f.2.2.1,f.2.2.2.2.1,f.2.2.2.1,u,f.2.2.2.2.2.1,q,f.2.2.2.2.2.2.1,f.2.2.2.2.2.2.2)) else none) else none)) else (bif (i.Op==21) then (bif ((decide ((0:Int)<=i.A))&&(decide (i.A<((8:Nat):Int)))) then (bif (decide ((1000000000:Int)<((ix b a).r.get i.A))) then ((dH t 0 v).bind λn=>(some (false,2,e,n,b,s,u,o,q,k,j))) else (bif (decide (((ix b a).r.get i.A)<1)) then ((i4 m t b o s).bind λh=>(bif (decide (0<=m/\m<(h.2.2.2.length:Int))) then (bif (decide (0<=a/\a<(h.2.2.1.length:Int))) then (some (h.1,d,e,v,h.2.2.1,h.2.1,u,h.2.2.2,q,k,j)) else none) else none)) else ((λz0:List cq=>((λz1:List cq=>((λz2:List cq=>(some (false,d,(i64.wrap (e+1)),v,(z2.set a.toNat ((cq.mk (ix z2 a).pc (ix z2 a).r (ix z2 a).state (ix z2 a).when (i64.wrap (e+1))):cq)),s,u,o,q,k,j))) (z1.set a.toNat ((cq.mk (ix z1 a).pc (ix z1 a).r (ix z1 a).state (i64.wrap (c+((ix b a).r.get i.A))) (ix z1 a).seq):cq)))) (z0.set a.toNat ((cq.mk (ix z0 a).pc (ix z0 a).r 2 (ix z0 a).when (ix z0 a).seq):cq)))) (b.set a.toNat ((cq.mk (i64.wrap ((ix b a).pc+1)) (ix b a).r (ix b a).state (ix b a).when (ix b a).seq):cq))))) else none) else (bif (i.Op==22) then ((dH t 0 v).bind λp=>(some (false,2,e,p,b,s,u,o,q,k,j))) else (eS d e q k j v b s u o)))) else none) else none)
def fF (k t:Int) (f:df) (a:List df) (b c d:Int) (n:List cy) (q:List Int) (m:List cq) (l:List bV) (p:List Int) (o:List cR) (i:List di) (h:List cX) (g:Int) (j:Bool):Option (Bool×Int×Int×List cy×List cq×List Int×List Int×List bV×List cR×List di×List cX):=(bif (decide (0<=k/\k<(l.length:Int))) then (bif (decide (0<=g/\g<(m.length:Int))) then (bif j then ((ez k t f a b n m l p o).bind λe=>(bif (decide (0<=k/\k<(e.2.2.2.2.2.1.length:Int))) then (bif (decide (0<=g/\g<(e.2.2.2.2.1.length:Int))) then (some (e.1,e.2.1,d,e.2.2.1,e.2.2.2.2.1,e.2.2.2.1,q,e.2.2.2.2.2.1,e.2.2.2.2.2.2,i,h)) else none) else none)) else (bif (f.Op==17) then (eu k t f a b c d n q m l p o i h g (f.Op==17)) else (bif (f.Op==18) then (eu k t f a b c d n q m l p o i h g (f.Op==18)) else (bif (f.Op==19) then (eu k t f a b c d n q m l p o i h g (f.Op==19)) else (eu k t f a b c d n q m l p o i h g (f.Op==20)))))) else none) else none)
def dC (p t:Int) (c:df) (e:List df) (b f d:Int) (s:List cy) (l:List Int) (g:List cq) (m:List bV) (o:List Int) (n:List cR) (j:List di) (i:List cX):Option (Bool×Int×Int×List cy×List cq×List Int×List Int×List bV×List cR×List di×List cX):=(bif (decide (0<=p/\p<(m.length:Int))) then ((dL t g).bind λa=>(bif (decide (0<=a/\a<(g.length:Int))) then (bif (c.Op==8) then (bif ((decide ((0:Int)<=c.A))&&(decide (c.A<((8:Nat):Int)))) then ((dq t c.Op 0 ((ix g a).r.get c.A) s).bind λw=>(eS b d n j i w g o l m)) else none) else (bif (c.Op==9) then ((dq t c.Op 0 0 s).bind λq=>((λz1:List cq=>(bif (t==1) then (js d l m o n j i 1 q z1) else (js d l m o n j i b q z1))) (g.set a.toNat ((cq.mk (ix g a).pc (ix g a).r 3 (ix g a).when (ix g a).seq):cq)))) else (bif (c.Op==10) then ((i4 p t g m o).bind λh=>(bif (decide (0<=p/\p<(h.2.2.2.length:Int))) then (bif (decide (0<=a/\a<(h.2.2.1.length:Int))) then (some (h.1,b,d,s,h.2.2.1,h.2.1,l,h.2.2.2,n,j,i)) else none) else none)) else (bif (c.Op==11) then (bif ((g.length:Int)==64) then (some (false,4,d,s,g,o,l,m,n,j,i)) else (bif ((decide ((0:Int)<=c.B))&&(decide (c.B<((8:Nat):Int)))) then (bif (decide ((g++[((cq.mk c.A ((default:(dn 8)).set (0:Int) ((ix g a).r.get c.B)) 0 0 0):cq)]).length*8<=140737488355328)) then ((dq t c.Op 0 (((g++[((cq.mk c.A ((default:(dn 8)).set (0:Int) ((ix g a).r.get c.B)) 0 0 0):cq)]).length:Nat):Int) s).bind λx=>((i6 p (((g++[((cq.mk c.A ((default:(dn 8)).set (0:Int) ((ix g a).r.get c.B)) 0 0 0):cq)]).length:Nat):Int) (g++[((cq.mk c.A ((default:(dn 8)).set (0:Int) ((ix g a).r.get c.B)) 0 0 0):cq)]) m o).bind λk=>(bif (decide (0<=p/\p<(k.2.2.length:Int))) then (eS b d n j i x k.2.1 k.1 l k.2.2) else none))) else none) else none)) else (bif (c.Op==12) then (bif ((decide ((0:Int)<=c.B))&&(decide (c.B<(l.length:Int)))) then (bif ((decide ((0:Int)<=c.A))&&(decide (c.A<((8:Nat):Int)))) then ((λz0:List cq=>((dq t c.Op c.B ((ix z0 a).r.get c.A) s).bind λu=>(eS b d n j i u z0 o l m))) (g.set a.toNat ((cq.mk (ix g a).pc ((ix g a).r.set c.A (ix l c.B)) (ix g a).state (ix g a).when (ix g a).seq):cq))) else none) else none) else (bif (c.Op==13) then (bif ((decide ((0:Int)<=c.B))&&(decide (c.B<((8:Nat):Int)))) then (bif ((decide ((0:Int)<=c.A))&&(decide (c.A<(l.length:Int)))) then ((dq t c.Op c.A ((ix g a).r.get c.B) s).bind λv=>(eS b d n j i v g o (l.set c.A.toNat ((ix g a).r.get c.B)) m)) else none) else none) else (bif (c.Op==14) then (fF p t c e b f d s l g m o n j i a (c.Op==14)) else (bif (c.Op==15) then (fF p t c e b f d s l g m o n j i a (c.Op==15)) else (fF p t c e b f d s l g m o n j i a (c.Op==16)))))))))) else none)) else none)
def er (p:Int) (e:List df) (o:List cy) (c f g:Int) (s:List Int) (m:List cq) (q:List cR) (n:List di) (l:List cX) (h:List bV) (j:List Int) (b:Int) (i:df):Option (Int×Int×List cy×List cq×List Int×List Int×List bV×List cR×List di×List cX):=(bif (decide (0<=p/\p<(h.length:Int))) then (bif (decide (0<=b/\b<(m.length:Int))) then ((oN i.Op).bind λk=>(bif k then ((me i (ix m b).pc b m).bind λd=>(bif (decide (d.2.length=m.length)) then (bif (decide (0<=b/\b<(d.2.length:Int))) then (some (c,g,o,(d.2.set b.toNat ((cq.mk d.1 (ix d.2 b).r (ix d.2 b).state (ix d.2 b).when (ix d.2 b).seq):cq)),j,s,h,q,n,l)) else none) else none)) else ((dC p (ix h p).now i e c f g o s m h j q n l).bind λa=>(bif (decide (0<=p/\p<(a.2.2.2.2.2.2.2.1.length:Int))) then (bif (decide (0<=b/\b<(a.2.2.2.2.1.length:Int))) then (bif a.1 then (some (a.2.1,a.2.2.1,a.2.2.2.1,(a.2.2.2.2.1.set b.toNat ((cq.mk (i64.wrap ((ix a.2.2.2.2.1 b).pc+1)) (ix a.2.2.2.2.1 b).r (ix a.2.2.2.2.1 b).state (ix a.2.2.2.2.1 b).when (ix a.2.2.2.2.1 b).seq):cq)),a.2.2.2.2.2.1,a.2.2.2.2.2.2.1,a.2.2.2.2.2.2.2.1,a.2.2.2.2.2.2.2.2.1,a.2.2.2.2.2.2.2.2.2.1,a.2.2.2.2.2.2.2.2.2.2)) else (bif (((ix a.2.2.2.2.2.2.2.1 p).now==(ix h p).now)&&((ix a.2.2.2.2.1 b).state != 0)) then (some (a.2.1,a.2.2.1,a.2.2.2.1,a.2.2.2.2.1,a.2.2.2.2.2.1,a.2.2.2.2.2.2.1,(a.2.2.2.2.2.2.2.1.set p.toNat ((bV.mk 0 (ix a.2.2.2.2.2.2.2.1 p).Ring_Next (ix a.2.2.2.2.2.2.2.1 p).Ring_List):bV)),a.2.2.2.2.2.2.2.2.1,a.2.2.2.2.2.2.2.2.2.1,a.2.2.2.2.2.2.2.2.2.2)) else (some (a.2.1,a.2.2.1,a.2.2.2.1,a.2.2.2.2.1,a.2.2.2.2.2.1,a.2.2.2.2.2.2.1,a.2.2.2.2.2.2.2.1,a.2.2.2.2.2.2.2.2.1,a.2.2.2.2.2.2.2.2.2.1,a.2.2.2.2.2.2.2.2.2.2)))) else none) else none)))) else none) else none)
def ge (p:Int) (a:List df) (l:List cy) (b d e:Int) (n:List Int) (h:List cq) (m:List cR) (k:List di) (j:List cX) (i:Bool) (f:List bV) (g:List Int):Option (Int×Int×List cy×List cq×List Int×List Int×List bV×List cR×List di×List cX):=(bif (decide (0<=p/\p<(f.length:Int))) then (bif i then (some (b,e,l,h,g,n,f,m,k,j)) else ((dL (ix f p).now h).bind λc=>(bif (decide (0<=c/\c<(h.length:Int))) then (bif (decide ((ix h c).pc<(a.length:Int))) then (bif ((decide ((0:Int)<=(ix h c).pc))&&(decide ((ix h c).pc<(a.length:Int)))) then (er p a l b d e n h m k j f g c (ix a (ix h c).pc)) else none) else (er p a l b d e n h m k j f g c (df.mk 9 0 0))) else none))) else none)
def gv (p:Int) (b:List df) (g:Int) (i:List Int) (h f:Int) (s:List cy) (a j c:Int) (t:List Int) (d:Int) (q:List Int) (r:List cq) (m:List bV) (o:List Int) (n:List cR) (l:List di) (k:List cX):Option (Int×Int×List cy×List cq×List Int×List Int×List bV×List cR×List di×List cX):=(bif ((decide ((0:Int)<=p))&&(decide (p<(m.length:Int)))) then (bif ((ix m p).now==0) then ((gu p m o).bind λe=>(bif (decide (0<=p/\p<(e.2.2.length:Int))) then (ge p b s a c d q r n l k (!e.1) e.2.2 e.2.1) else none)) else (ge p b s a c d q r n l k false m o)) else none)
def iO (a:Int) (b:List cq):Option (Bool):=(bif (decide (0<=a/\a<(b.length:Int))) then (some ((((ix b a).state==0)||((ix b a).state==2)))) else none)
def gg (c:List cq):Int->Option (((Int) ⊕ (Int))):=λa=>(bif (decide (a<(c.length:Int))) then (bif ((decide ((0:Int)<=a))&&(decide (a<(c.length:Int)))) then ((iO a c).bind λb=>(bif b then (Option.map Sum.inr (some (a))) else (some (Sum.inl ((i64.wrap (a+1))))))) else none) else (Option.map Sum.inr (some ((-1)))))
def j6 (a:List cq):Option (Int):=(dE (gg a) (0))
def jh (b:List cq):Option (Bool):=((j6 b).bind λa=>(some ((decide ((0:Int)<=a)))))
def jt (b:List cq):Option (Bool):=((jh b).bind λa=>(some ((!a))))
def nM (b c d:Int) (h:List cy) (g:List Int) (e:List cq):Int×(List Int)->Option (((Int×List Int) ⊕ (Int×Int×Int×cE×List cy×List Int×List Int))):=λ(a,f)=>(bif (decide (a<(e.length:Int))) then (bif ((decide ((0:Int)<=a))&&(decide (a<(e.length:Int)))) then (bif (decide ((f++([(ix e a).state]:List Int)).length*8<=140737488355328)) then (some (Sum.inl ((i64.wrap (a+1)),(f++([(ix e a).state]:List Int))))) else none) else none) else (Option.map Sum.inr (some (b,c,d,(cE.mk 0 0),h,f,g))))
def mg (a b c:Int) (f:List cy) (g e:List Int) (d:List cq):Option (Int×Int×Int×cE×List cy×List Int×List Int):=(dE (nM a b c f e d) (0,g))
def mh (h a:Int) (j:List Int) (b c d:Int) (k:List cy) (m:List Int) (g:List cq) (l:List bV) (n:List Int) (i:List cR) (f:List di) (e:List cX):Option (((Int×Int×Int×Int×Int×List cy×List Int×List Int×List cq×List bV×List Int×List cR×List di×List cX) ⊕ (Int×Int×Int×cE×List cy×List Int×List Int))):=(some (Sum.inl ((i64.wrap (h+1)),b,(i64.wrap (a+1)),c,d,k,j,m,g,l,n,i,f,e)))
def mj (g a:Int) (j:List Int) (c b d:Int) (n:List cy) (m:List Int) (h:List cq) (k:List bV) (l:List Int) (i:List cR) (f:List di) (e:List cX) (o:Bool):Option (((Int×Int×Int×Int×Int×List cy×List Int×List Int×List cq×List bV×List Int×List cR×List di×List cX) ⊕ (Int×Int×Int×cE×List cy×List Int×List Int))):=(bif o then (mh g a j 3 b d n m h k l i f e) else (mh g a j c b d n m h k l i f e))
def ml (h b:Int) (j:List Int) (a c d:Int) (n:List cy) (m:List Int) (e:List cq) (k:List bV) (l:List Int) (i:List cR) (g:List di) (f:List cX):Option (((Int×Int×Int×Int×Int×List cy×List Int×List Int×List cq×List bV×List Int×List cR×List di×List cX) ⊕ (Int×Int×Int×cE×List cy×List Int×List Int))):=(bif (a==0) then ((jt e).bind λo=>(mj h b j a c d n m e k l i g f o)) else (mj h b j a c d n m e k l i g f false))
def gK (p:cz) (g:List Int):Int×Int×Int×Int×Int×List cy×List Int×List Int×List cq×List bV×List Int×List cR×List di×(List cX)->Option (((Int×Int×Int×Int×Int×List cy×List Int×List Int×List cq×List bV×List Int×List cR×List di×List cX) ⊕ (Int×Int×Int×cE×List cy×List Int×List Int))):=λ(e,b,a,c,f,i,h,j,k,r,o,q,m,n)=>(bif (decide (e<(g.length:Int))) then (bif ((decide ((0:Int)<=e))&&(decide (e<(g.length:Int)))) then (bif (b != 0) then (Option.map Sum.inr (mg b a c i h j k)) else (bif (decide ((ix g e)<0)) then ((jP c k o).bind λl=>(ml e a h b l.1 f i j l.2.2 r l.2.1 q m n)) else ((gv (ix g e) p.Code p.Cells p.Pipes p.Locks p.Groups i b (i64.wrap (a+1)) c h f j k r o q m n).bind λd=>(ml e a h d.1 c d.2.1 d.2.2.1 d.2.2.2.2.2.1 d.2.2.2.1 d.2.2.2.2.2.2.1 d.2.2.2.2.1 d.2.2.2.2.2.2.2.1 d.2.2.2.2.2.2.2.2.1 d.2.2.2.2.2.2.2.2.2)))) else none) else (Option.map Sum.inr (mg b a c i h j k)))
def nN (p:cz) (d:Int) (c:List Int):Int->Option (((Int) ⊕ (Int×Int×Int×cE×List cy×List Int×List Int))):=λb=>(bif (decide (b<(c.length:Int))) then (bif ((decide ((0:Int)<=b))&&(decide (b<(c.length:Int)))) then (bif ((decide ((ix c b)<(-1)))||(decide (d<=(ix c b)))) then ((pe 3 b).bind λe=>(Option.map Sum.inr (some (0,0,0,e,[],[],[])))) else (some (Sum.inl ((i64.wrap (b+1)))))) else none) else (Option.map Sum.inr ((lR p d).bind λa=>(dE (gK p c) (0,0,0,0,0,[],[],a.1,a.2.1,a.2.2.1,a.2.2.2.1,a.2.2.2.2.1,a.2.2.2.2.2.1,a.2.2.2.2.2.2)))))
def lr (p:cz) (a:Int) (b:List Int):Option (Int×Int×Int×cE×List cy×List Int×List Int):=((qk p).bind λc=>(bif (c.Code != 0) then (some (0,0,0,c,[],[],[])) else (bif ((decide (a<1))||(decide ((16:Int)<a))) then ((pe 3 (-1)).bind λd=>(some (0,0,0,d,[],[],[]))) else (bif (decide ((5000:Int)<(b.length:Int))) then ((pe 2 (-1)).bind λe=>(some (0,0,0,e,[],[],[]))) else (dE (nN p a b) (0))))))
def kB:Option (Bool):=((lr (cz.mk ([(df.mk 15 0 0)]:List df) 0 ([0]:List Int) 0 0) 1 ([0,0]:List Int)).bind λa=>(some (((a.2.2.2.1.Code==0)&&((a.1==3)&&((a.2.1==1)&&((a.2.2.2.2.1.length:Int)==0)))))))
def j7 (p:cz):Option (Bool):=(some (((decide ((2000:Int)<(p.Code.length:Int)))||(decide ((2000:Int)<(p.Pipes.length:Int))))))
def gL (a b:Int):Option (cE):=(some ((cE.mk a b)))
def fh (x a:Int):Option (Bool):=(some (((decide ((0:Int)<=x))&&(decide (x<a)))))
def gb (p:cz) (k x:Int):Option (Bool):=(bif (k==110) then (some (true)) else (bif (k==114) then (fh x 8) else (bif (k==99) then (fh x (p.Code.length:Int)) else (bif (k==109) then (fh x p.Cells) else (bif (k==112) then (fh x (p.Pipes.length:Int)) else (bif (k==108) then (fh x p.Locks) else (bif (k==103) then (fh x p.Groups) else (bif (k==107) then (fh x 2) else (fh x 1)))))))))
def fB (c:Int) (a:Bool):Option (((Int) ⊕ (cE))):=(bif a then ((gL 5 c).bind λb=>(Option.map Sum.inr (some (b)))) else (some (Sum.inl ((i64.wrap (c+1))))))
def dX (p:cz):Int->Option (((Int) ⊕ (cE))):=λa=>(bif (decide (a<(p.Code.length:Int))) then (bif ((decide ((0:Int)<=a))&&(decide (a<(p.Code.length:Int)))) then (bif ((decide ((ix p.Code a).Op<1))||(decide ((22:Int)<(ix p.Code a).Op))) then ((gL 4 a).bind λd=>(Option.map Sum.inr (some (d)))) else (bif ((decide ((0:Int)<=(ix p.Code a).Op))&&(decide ((ix p.Code a).Op<(f8.length:Int)))) then (bif (decide ((0:Int)<((((ix f8 (ix p.Code a).Op)).size:Nat):Int))) then ((gb p ((((ix f8 (ix p.Code a).Op)).data.getD ((0:Int)).toNat 0).toNat:Int) (ix p.Code a).A).bind λb=>(bif (!b) then (fB a true) else (bif ((decide ((0:Int)<=(ix p.Code a).Op))&&(decide ((ix p.Code a).Op<(f8.length:Int)))) then (bif (decide ((1:Int)<((((ix f8 (ix p.Code a).Op)).size:Nat):Int))) then ((gb p ((((ix f8 (ix p.Code a).Op)).data.getD ((1:Int)).toNat 0).toNat:Int) (ix p.Code a).B).bind λc=>(fB a (!c))) else none) else none))) else none) else none)) else none) else (Option.map Sum.inr (some ((cE.mk 0 0)))))
def f_ (p:cz):Int->Option (((Int) ⊕ (cE))):=λa=>(bif (decide (a<(p.Pipes.length:Int))) then (bif ((decide ((0:Int)<=a))&&(decide (a<(p.Pipes.length:Int)))) then (bif ((!(!(decide ((ix p.Pipes a)<0))))||((decide ((0:Int)<=a))&&(decide (a<(p.Pipes.length:Int))))) then (bif ((decide ((ix p.Pipes a)<0))||(decide ((100:Int)<(ix p.Pipes a)))) then ((gL 8 a).bind λb=>(Option.map Sum.inr (some (b)))) else (some (Sum.inl ((i64.wrap (a+1)))))) else none) else none) else (Option.map Sum.inr (dE (dX p) (0))))
def iF (p:cz):Option (cE):=(bif ((decide ((1000:Int)<(p.Code.length:Int)))||(decide ((20:Int)<(p.Pipes.length:Int)))) then ((gL 2 0).bind λa=>(some (a))) else (bif ((decide (p.Cells<0))||((decide ((20:Int)<p.Cells))||((decide (p.Locks<0))||((decide ((20:Int)<p.Locks))||((decide (p.Groups<0))||(decide ((20:Int)<p.Groups))))))) then ((gL 3 0).bind λb=>(some (b))) else (dE (f_ p) (0))))
def jS (b:Int) (a:cE):Option (((Int×cE) ⊕ (cE))):=(some (Sum.inl ((i64.wrap (b+1)),a)))
def jT (e:Int) (a:List Int):Int×cE->Option (((Int×cE) ⊕ (cE))):=λ(c,b)=>(bif ((decide (c<(a.length:Int)))&&(b.Code==0)) then (bif ((decide ((0:Int)<=c))&&(decide (c<(a.length:Int)))) then (bif ((!(!(decide ((ix a c)<(-1)))))||((decide ((0:Int)<=c))&&(decide (c<(a.length:Int))))) then (bif ((decide ((ix a c)<(-1)))||(decide (e<=(ix a c)))) then ((gL 3 c).bind λd=>(jS c d)) else (jS c b)) else none) else none) else (Option.map Sum.inr (some (b))))
def gO (b:Int) (a:List Int) (c:cE):Option (cE):=(dE (jT b a) (0,c))
def fX (b:Int) (a:List Int) (c:cE):Option (cE):=(bif ((c.Code==0)&&(decide ((5000:Int)<(a.length:Int)))) then ((gL 2 (-1)).bind λd=>(gO b a d)) else (gO b a c))
def ju (p:cz) (a:Int) (b:List Int):Option (cE):=((iF p).bind λc=>(bif ((c.Code==0)&&((decide (a<1))||(decide ((16:Int)<a)))) then ((gL 3 (-1)).bind λd=>(fX a b d)) else (fX a b c)))
def jv (p:cz) (c:Int) (b:List Int) (d:Bool):Option (Int×Int×Int×Bool×List cy×List Int×List Int):=(bif d then (some (0,0,0,false,[],[],[])) else ((lr p c b).bind λa=>(some (a.1,a.2.1,a.2.2.1,(a.2.2.2.1.Code==0),a.2.2.2.2.1,a.2.2.2.2.2.1,a.2.2.2.2.2.2))))
def iZ (p:cz) (b:Int) (a:List Int):Option (Int×Int×Int×Bool×List cy×List Int×List Int):=((j7 p).bind λd=>(bif d then (jv p b a true) else (bif (decide ((5000:Int)<(a.length:Int))) then (jv p b a true) else ((ju p b a).bind λc=>(jv p b a (c.Code != 0))))))
def iG (c b:List cy):Int->Option (((Int) ⊕ (Bool))):=λa=>(bif (decide (a<(c.length:Int))) then (bif ((decide ((0:Int)<=a))&&(decide (a<(c.length:Int)))) then (bif ((decide ((0:Int)<=a))&&(decide (a<(b.length:Int)))) then (bif (!(((ix c a).Task==(ix b a).Task)&&(((ix c a).Op==(ix b a).Op)&&(((ix c a).Obj==(ix b a).Obj)&&(((ix c a).Value==(ix b a).Value)&&true))))) then (Option.map Sum.inr (some (false))) else (some (Sum.inl ((i64.wrap (a+1)))))) else none) else none) else (Option.map Sum.inr (some (true))))
def ir (a b:List cy):Option (Bool):=(bif ((a.length:Int) != (b.length:Int)) then (some (false)) else (dE (iG a b) (0)))
def kf (c b:List Int):Int->Option (((Int) ⊕ (Bool))):=λa=>(bif (decide (a<(c.length:Int))) then (bif ((decide ((0:Int)<=a))&&(decide (a<(c.length:Int)))) then (bif ((decide ((0:Int)<=a))&&(decide (a<(b.length:Int)))) then (bif ((ix c a) != (ix b a)) then (Option.map Sum.inr (some (false))) else (some (Sum.inl ((i64.wrap (a+1)))))) else none) else none) else (Option.map Sum.inr (some (true))))
def kj (a b:List Int):Option (Bool):=(bif ((a.length:Int) != (b.length:Int)) then (some (false)) else (dE (kf a b) (0)))
def eU (a:Bool):Option (Bool):=(some (a))
def ic (e b:lQ):Option (Bool):=(bif (e.State==b.State) then (bif (e.Steps==b.Steps) then (bif (e.Now==b.Now) then ((kj e.Tasks b.Tasks).bind λc=>(bif c then ((kj e.Cells b.Cells).bind λa=>(bif a then ((ir e.Trace b.Trace).bind λd=>(eU d)) else (eU false))) else (eU false))) else (eU false)) else (eU false)) else (eU false))
def gh (a:Bool):Option (Bool):=(some (a))
def fj (g:List Int) (n:Int) (q:Bool) (b d f c a e:Int) (m:List cy) (k h:List Int) (i:List cy) (l j:List Int):Option (Bool):=(bif q then (some (false)) else (bif ((b==0)&&(d != (g.length:Int))) then (some (false)) else (bif (c==0) then (bif (a==n) then (gh true) else ((ic (lQ.mk m b d f k h) (lQ.mk i c a e l j)).bind λo=>(gh o))) else ((ic (lQ.mk m b d f k h) (lQ.mk i c a e l j)).bind λp=>(gh p)))))
def j8 (p:cz) (d:Int) (c:List Int) (n:Int):Option (Bool):=(kB.bind λf=>(bif (!f) then (some (false)) else (bif ((decide (n<0))||(decide ((c.length:Int)<n))) then (some (true)) else ((iZ p d c).bind λb=>(bif ((decide ((0:Int)<=n))&&(decide (n<=(c.length:Int)))) then ((iZ p d (cut c (0:Int) n)).bind λa=>(bif (!b.2.2.2.1) then (some (true)) else (bif (decide ((b.2.2.2.2.1.length:Int)<(a.2.2.2.2.1.length:Int))) then (fj c n true b.1 b.2.1 b.2.2.1 a.1 a.2.1 a.2.2.1 b.2.2.2.2.1 b.2.2.2.2.2.1 b.2.2.2.2.2.2 a.2.2.2.2.1 a.2.2.2.2.2.1 a.2.2.2.2.2.2) else (bif ((decide ((0:Int)<=(a.2.2.2.2.1.length:Int)))&&(decide ((a.2.2.2.2.1.length:Int)<=(b.2.2.2.2.1.length:Int)))) then ((ir a.2.2.2.2.1 (cut b.2.2.2.2.1 (0:Int) (a.2.2.2.2.1.length:Int))).bind λe=>(bif (!e) then (fj c n true b.1 b.2.1 b.2.2.1 a.1 a.2.1 a.2.2.1 b.2.2.2.2.1 b.2.2.2.2.2.1 b.2.2.2.2.2.2 a.2.2.2.2.1 a.2.2.2.2.2.1 a.2.2.2.2.2.2) else (bif (decide (b.2.1<a.2.1)) then (fj c n true b.1 b.2.1 b.2.2.1 a.1 a.2.1 a.2.2.1 b.2.2.2.2.1 b.2.2.2.2.2.1 b.2.2.2.2.2.2 a.2.2.2.2.1 a.2.2.2.2.2.1 a.2.2.2.2.2.2) else (bif (decide (n<a.2.1)) then (fj c n true b.1 b.2.1 b.2.2.1 a.1 a.2.1 a.2.2.1 b.2.2.2.2.1 b.2.2.2.2.2.1 b.2.2.2.2.2.2 a.2.2.2.2.1 a.2.2.2.2.2.1 a.2.2.2.2.2.2) else (fj c n (decide ((c.length:Int)<b.2.1)) b.1 b.2.1 b.2.2.1 a.1 a.2.1 a.2.2.1 b.2.2.2.2.1 b.2.2.2.2.2.1 b.2.2.2.2.2.2 a.2.2.2.2.1 a.2.2.2.2.2.1 a.2.2.2.2.2.2))))) else none)))) else none)))))
end
end Go.Proofs.YthcdpjkgdcpkmaaGreatDoor
