/-
 What laws of the chapter wk compute, and lemmas on it.
 No conditions.
-/
import Derived.Test.YthcdpjkgdcpkmaaGreatDoorwkA4
open Go.IntKind (i64)
set_option linter.unusedSimpArgs false
set_option linter.unusedVariables false
set_option linter.unusedSectionVars false
namespace Go.Proofs.YthcdpjkgdcpkmaaGreatDoor
noncomputable section
open Go Go.Sx
structure dg where
 Op:Int
 A:Int
 B:Int
 deriving Inhabited,DecidableEq
instance : bZ dg:=⟨3,λd=>[.v (.int .i64 d.Op),.v (.int .i64 d.A),.v (.int .i64 d.B)],λ_=>rfl,λ_=>rfl,λ_=>by simp only [ip,SV.st,kO,db]⟩
@[push_cast] theorem No (xs:List dg):iT (fl xs)=true:=mX (λ_=>rfl) xs
@[push_cast] theorem w5:bZ.sz dg=3:=rfl
@[push_cast] theorem Mi (d:dg):bZ.cells d=[.v (.int .i64 d.Op),.v (.int .i64 d.A),.v (.int .i64 d.B)]:=rfl
@[push_cast] theorem MO (xs:List dg) (x0:Int) (x1:Int) (x2:Int):fl xs++[.v (.int .i64 x0),.v (.int .i64 x1),.v (.int .i64 x2)]=fl (xs++[dg.mk x0 x1 x2]):=by rw [fG];rfl
@[push_cast] theorem Mj (xs:List dg) (i:Int):(fl xs).getD (i.toNat*3) (.v (.int .i64 0)) = .v (.int .i64 (ix xs i).Op):=by
 have:=fo xs i 0 (by decide) (.v (.int .i64 0):SV) rfl
 rw [w5,eD] at this
 exact this
@[push_cast] theorem MP (xs:List dg) (i:Int):(fl xs).getD (i.toNat*3+1) (.v (.int .i64 0)) = .v (.int .i64 (ix xs i).A):=by
 have:=fo xs i 1 (by decide) (.v (.int .i64 0):SV) rfl
 rw [w5] at this
 exact this
@[push_cast] theorem MQ (xs:List dg) (i:Int):(fl xs).getD (i.toNat*3+2) (.v (.int .i64 0)) = .v (.int .i64 (ix xs i).B):=by
 have:=fo xs i 2 (by decide) (.v (.int .i64 0):SV) rfl
 rw [w5] at this
 exact this
structure cy where
 Code:(List dg)
 Cells:Int
 Pipes:(List Int)
 Locks:Int
 Groups:Int
 deriving Inhabited,DecidableEq
instance : bZ cy:=⟨5,λd=>[.sl d.Code.length (fl d.Code),.v (.int .i64 d.Cells),.sl d.Pipes.length (fl d.Pipes),.v (.int .i64 d.Locks),.v (.int .i64 d.Groups)],λ_=>rfl,λ_=>rfl,λ_=>by simp only [ip,SV.st,kO,db]⟩
@[push_cast] theorem t6:bZ.sz cy=5:=rfl
@[push_cast] theorem Ay (d:cy):bZ.cells d=[.sl d.Code.length (fl d.Code),.v (.int .i64 d.Cells),.sl d.Pipes.length (fl d.Pipes),.v (.int .i64 d.Locks),.v (.int .i64 d.Groups)]:=rfl
@[push_cast] theorem Ll (xs:List cy) (x0:(List dg)) (x1:Int) (x2:(List Int)) (x3:Int) (x4:Int):fl xs++[.sl x0.length (fl x0),.v (.int .i64 x1),.sl x2.length (fl x2),.v (.int .i64 x3),.v (.int .i64 x4)]=fl (xs++[cy.mk x0 x1 x2 x3 x4]):=by rw [fG];rfl
@[push_cast] theorem H9 (xs:List cy) (i:Int):(fl xs).getD (i.toNat*5+1) (.v (.int .i64 0)) = .v (.int .i64 (ix xs i).Cells):=by
 have:=fo xs i 1 (by decide) (.v (.int .i64 0):SV) rfl
 rw [t6] at this
 exact this
@[push_cast] theorem H_ (xs:List cy) (i:Int):(fl xs).getD (i.toNat*5+3) (.v (.int .i64 0)) = .v (.int .i64 (ix xs i).Locks):=by
 have:=fo xs i 3 (by decide) (.v (.int .i64 0):SV) rfl
 rw [t6] at this
 exact this
@[push_cast] theorem HP (xs:List cy) (i:Int):(fl xs).getD (i.toNat*5+4) (.v (.int .i64 0)) = .v (.int .i64 (ix xs i).Groups):=by
 have:=fo xs i 4 (by decide) (.v (.int .i64 0):SV) rfl
 rw [t6] at this
 exact this
structure cD where
 Code:Int
 At:Int
 deriving Inhabited,DecidableEq
instance : bZ cD:=⟨2,λd=>[.v (.int .i64 d.Code),.v (.int .i64 d.At)],λ_=>rfl,λ_=>rfl,λ_=>by simp only [ip,SV.st,kO,db]⟩
@[push_cast] theorem NR (xs:List cD):iT (fl xs)=true:=mX (λ_=>rfl) xs
@[push_cast] theorem Dm:bZ.sz cD=2:=rfl
@[push_cast] theorem MR (d:cD):bZ.cells d=[.v (.int .i64 d.Code),.v (.int .i64 d.At)]:=rfl
@[push_cast] theorem Np (xs:List cD) (x0:Int) (x1:Int):fl xs++[.v (.int .i64 x0),.v (.int .i64 x1)]=fl (xs++[cD.mk x0 x1]):=by rw [fG];rfl
@[push_cast] theorem Lm (xs:List cD) (i:Int):(fl xs).getD (i.toNat*2) (.v (.int .i64 0)) = .v (.int .i64 (ix xs i).Code):=by
 have:=fo xs i 0 (by decide) (.v (.int .i64 0):SV) rfl
 rw [Dm,eD] at this
 exact this
@[push_cast] theorem MS (xs:List cD) (i:Int):(fl xs).getD (i.toNat*2+1) (.v (.int .i64 0)) = .v (.int .i64 (ix xs i).At):=by
 have:=fo xs i 1 (by decide) (.v (.int .i64 0):SV) rfl
 rw [Dm] at this
 exact this
structure kind where
 name:ByteArray
 args:ByteArray
 deriving Inhabited,DecidableEq
instance : bZ kind:=⟨2,λd=>[.v (.string d.name),.v (.string d.args)],λ_=>rfl,λ_=>rfl,λ_=>by simp only [ip,SV.st,kO,db]⟩
@[push_cast] theorem Oh (xs:List kind):iT (fl xs)=true:=mX (λ_=>rfl) xs
@[push_cast] theorem Ot:bZ.sz kind=2:=rfl
@[push_cast] theorem Nq (d:kind):bZ.cells d=[.v (.string d.name),.v (.string d.args)]:=rfl
@[push_cast] theorem NS (xs:List kind) (x0:ByteArray) (x1:ByteArray):fl xs++[.v (.string x0),.v (.string x1)]=fl (xs++[kind.mk x0 x1]):=by rw [fG];rfl
structure cq where
 pc:Int
 r:dn 8
 state:Int
 when:Int
 seq:Int
 deriving Inhabited,DecidableEq
instance : bZ cq:=⟨12,λd=>((.v (.int .i64 d.pc)::(bZ.cells d.r++(.v (.int .i64 d.state)::(.v (.int .i64 d.when)::(.v (.int .i64 d.seq)::[]))))):List SV),(λ_=>by simp only [KG,gq,List.length_nil]),(λ_=>by simp only [KH,mF,List.all_nil,jo,Value.oneCell',db]),λ_=>by simp only [EZ,ip,SV.st,kO,db]⟩
@[push_cast] theorem Oi (xs:List cq):iT (fl xs)=true:=mX (λ_=>rfl) xs
@[push_cast] theorem xx:bZ.sz cq=12:=rfl
@[push_cast] theorem Nr (d:cq):bZ.cells d=((.v (.int .i64 d.pc)::(bZ.cells d.r++(.v (.int .i64 d.state)::(.v (.int .i64 d.when)::(.v (.int .i64 d.seq)::[]))))):List SV):=rfl
@[push_cast] theorem NT (xs:List cq) (x0:Int) (x1:dn 8) (x9:Int) (x10:Int) (x11:Int):fl xs++((.v (.int .i64 x0)::(bZ.cells x1++(.v (.int .i64 x9)::(.v (.int .i64 x10)::(.v (.int .i64 x11)::[]))))):List SV)=fl (xs++[cq.mk x0 x1 x9 x10 x11]):=by rw [fG];rfl
@[push_cast] theorem Ns (xs:List cq) (i:Int):(fl xs).getD (i.toNat*12) (.v (.int .i64 0)) = .v (.int .i64 (ix xs i).pc):=by
 have:=fo xs i 0 (by decide) (.v (.int .i64 0):SV) rfl
 rw [xx,eD] at this
 exact this
@[push_cast] theorem Ln (xs:List cq) (i:Int):(fl xs).getD (i.toNat*12+9) (.v (.int .i64 0)) = .v (.int .i64 (ix xs i).state):=by
 have:=fo xs i 9 (by decide) (.v (.int .i64 0):SV) rfl
 rw [xx] at this
 exact this
@[push_cast] theorem Mk (xs:List cq) (i:Int):(fl xs).getD (i.toNat*12+10) (.v (.int .i64 0)) = .v (.int .i64 (ix xs i).when):=by
 have:=fo xs i 10 (by decide) (.v (.int .i64 0):SV) rfl
 rw [xx] at this
 exact this
@[push_cast] theorem MT (xs:List cq) (i:Int):(fl xs).getD (i.toNat*12+11) (.v (.int .i64 0)) = .v (.int .i64 (ix xs i).seq):=by
 have:=fo xs i 11 (by decide) (.v (.int .i64 0):SV) rfl
 rw [xx] at this
 exact this
structure bV where
 now:Int
 Ring_Next:Int
 Ring_List:(List Int)
 deriving Inhabited,DecidableEq
instance : bZ bV:=⟨3,λd=>[.v (.int .i64 d.now),.v (.int .i64 d.Ring_Next),.sl d.Ring_List.length (fl d.Ring_List)],λ_=>rfl,λ_=>rfl,λ_=>by simp only [ip,SV.st,kO,db]⟩
@[push_cast] theorem w6:bZ.sz bV=3:=rfl
@[push_cast] theorem Jm (d:bV):bZ.cells d=[.v (.int .i64 d.now),.v (.int .i64 d.Ring_Next),.sl d.Ring_List.length (fl d.Ring_List)]:=rfl
@[push_cast] theorem KL (xs:List bV) (x0:Int) (x1:Int) (x2:(List Int)):fl xs++[.v (.int .i64 x0),.v (.int .i64 x1),.sl x2.length (fl x2)]=fl (xs++[bV.mk x0 x1 x2]):=by rw [fG];rfl
@[push_cast] theorem IT (xs:List bV) (i:Int):(fl xs).getD (i.toNat*3) (.v (.int .i64 0)) = .v (.int .i64 (ix xs i).now):=by
 have:=fo xs i 0 (by decide) (.v (.int .i64 0):SV) rfl
 rw [w6,eD] at this
 exact this
@[push_cast] theorem Eo (xs:List bV) (i:Int):(fl xs).getD (i.toNat*3+1) (.v (.int .i64 0)) = .v (.int .i64 (ix xs i).Ring_Next):=by
 have:=fo xs i 1 (by decide) (.v (.int .i64 0):SV) rfl
 rw [w6] at this
 exact this
structure cI where
 Task:Int
 Case:Int
 Value:Int
 deriving Inhabited,DecidableEq
instance : bZ cI:=⟨3,λd=>[.v (.int .i64 d.Task),.v (.int .i64 d.Case),.v (.int .i64 d.Value)],λ_=>rfl,λ_=>rfl,λ_=>by simp only [ip,SV.st,kO,db]⟩
@[push_cast] theorem NU (xs:List cI):iT (fl xs)=true:=mX (λ_=>rfl) xs
@[push_cast] theorem yz:bZ.sz cI=3:=rfl
@[push_cast] theorem MU (d:cI):bZ.cells d=[.v (.int .i64 d.Task),.v (.int .i64 d.Case),.v (.int .i64 d.Value)]:=rfl
@[push_cast] theorem Nt (xs:List cI) (x0:Int) (x1:Int) (x2:Int):fl xs++[.v (.int .i64 x0),.v (.int .i64 x1),.v (.int .i64 x2)]=fl (xs++[cI.mk x0 x1 x2]):=by rw [fG];rfl
@[push_cast] theorem Lo (xs:List cI) (i:Int):(fl xs).getD (i.toNat*3) (.v (.int .i64 0)) = .v (.int .i64 (ix xs i).Task):=by
 have:=fo xs i 0 (by decide) (.v (.int .i64 0):SV) rfl
 rw [yz,eD] at this
 exact this
@[push_cast] theorem Lp (xs:List cI) (i:Int):(fl xs).getD (i.toNat*3+1) (.v (.int .i64 0)) = .v (.int .i64 (ix xs i).Case):=by
 have:=fo xs i 1 (by decide) (.v (.int .i64 0):SV) rfl
 rw [yz] at this
 exact this
@[push_cast] theorem KM (xs:List cI) (i:Int):(fl xs).getD (i.toNat*3+2) (.v (.int .i64 0)) = .v (.int .i64 (ix xs i).Value):=by
 have:=fo xs i 2 (by decide) (.v (.int .i64 0):SV) rfl
 rw [yz] at this
 exact this
structure cR where
 Cap:Int
 Items:(List Int)
 Closed:Bool
 Senders:(List cI)
 Getters:(List cI)
 deriving Inhabited,DecidableEq
instance : bZ cR:=⟨5,λd=>[.v (.int .i64 d.Cap),.sl d.Items.length (fl d.Items),.v (.bool d.Closed),.sl d.Senders.length (fl d.Senders),.sl d.Getters.length (fl d.Getters)],λ_=>rfl,λ_=>rfl,λ_=>by simp only [ip,SV.st,kO,db]⟩
@[push_cast] theorem E_:bZ.sz cR=5:=rfl
@[push_cast] theorem Nu (d:cR):bZ.cells d=[.v (.int .i64 d.Cap),.sl d.Items.length (fl d.Items),.v (.bool d.Closed),.sl d.Senders.length (fl d.Senders),.sl d.Getters.length (fl d.Getters)]:=rfl
@[push_cast] theorem NV (xs:List cR) (x0:Int) (x1:(List Int)) (x2:Bool) (x3:(List cI)) (x4:(List cI)):fl xs++[.v (.int .i64 x0),.sl x1.length (fl x1),.v (.bool x2),.sl x3.length (fl x3),.sl x4.length (fl x4)]=fl (xs++[cR.mk x0 x1 x2 x3 x4]):=by rw [fG];rfl
@[push_cast] theorem MW (xs:List cR) (i:Int):(fl xs).getD (i.toNat*5) (.v (.int .i64 0)) = .v (.int .i64 (ix xs i).Cap):=by
 have:=fo xs i 0 (by decide) (.v (.int .i64 0):SV) rfl
 rw [E_,eD] at this
 exact this
@[push_cast] theorem KN (xs:List cR) (i:Int):(fl xs).getD (i.toNat*5+2) (.v (.bool false)) = .v (.bool (ix xs i).Closed):=by
 have:=fo xs i 2 (by decide) (.v (.bool false):SV) rfl
 rw [E_] at this
 exact this
structure dR where
 Task:Int
 Write:Bool
 N:Int
 deriving Inhabited,DecidableEq
instance : bZ dR:=⟨3,λd=>[.v (.int .i64 d.Task),.v (.bool d.Write),.v (.int .i64 d.N)],λ_=>rfl,λ_=>rfl,λ_=>by simp only [ip,SV.st,kO,db]⟩
@[push_cast] theorem Oj (xs:List dR):iT (fl xs)=true:=mX (λ_=>rfl) xs
@[push_cast] theorem Az:bZ.sz dR=3:=rfl
@[push_cast] theorem Nv (d:dR):bZ.cells d=[.v (.int .i64 d.Task),.v (.bool d.Write),.v (.int .i64 d.N)]:=rfl
@[push_cast] theorem NW (xs:List dR) (x0:Int) (x1:Bool) (x2:Int):fl xs++[.v (.int .i64 x0),.v (.bool x1),.v (.int .i64 x2)]=fl (xs++[dR.mk x0 x1 x2]):=by rw [fG];rfl
@[push_cast] theorem Ml (xs:List dR) (i:Int):(fl xs).getD (i.toNat*3) (.v (.int .i64 0)) = .v (.int .i64 (ix xs i).Task):=by
 have:=fo xs i 0 (by decide) (.v (.int .i64 0):SV) rfl
 rw [Az,eD] at this
 exact this
@[push_cast] theorem Lq (xs:List dR) (i:Int):(fl xs).getD (i.toNat*3+1) (.v (.bool false)) = .v (.bool (ix xs i).Write):=by
 have:=fo xs i 1 (by decide) (.v (.bool false):SV) rfl
 rw [Az] at this
 exact this
@[push_cast] theorem NX (xs:List dR) (i:Int):(fl xs).getD (i.toNat*3+2) (.v (.int .i64 0)) = .v (.int .i64 (ix xs i).N):=by
 have:=fo xs i 2 (by decide) (.v (.int .i64 0):SV) rfl
 rw [Az] at this
 exact this
structure di where
 Readers:Int
 Writer:Bool
 Line:(List dR)
 deriving Inhabited,DecidableEq
instance : bZ di:=⟨3,λd=>[.v (.int .i64 d.Readers),.v (.bool d.Writer),.sl d.Line.length (fl d.Line)],λ_=>rfl,λ_=>rfl,λ_=>by simp only [ip,SV.st,kO,db]⟩
@[push_cast] theorem Fa:bZ.sz di=3:=rfl
@[push_cast] theorem Nw (d:di):bZ.cells d=[.v (.int .i64 d.Readers),.v (.bool d.Writer),.sl d.Line.length (fl d.Line)]:=rfl
@[push_cast] theorem NY (xs:List di) (x0:Int) (x1:Bool) (x2:(List dR)):fl xs++[.v (.int .i64 x0),.v (.bool x1),.sl x2.length (fl x2)]=fl (xs++[di.mk x0 x1 x2]):=by rw [fG];rfl
@[push_cast] theorem Jn (xs:List di) (i:Int):(fl xs).getD (i.toNat*3) (.v (.int .i64 0)) = .v (.int .i64 (ix xs i).Readers):=by
 have:=fo xs i 0 (by decide) (.v (.int .i64 0):SV) rfl
 rw [Fa,eD] at this
 exact this
@[push_cast] theorem KO (xs:List di) (i:Int):(fl xs).getD (i.toNat*3+1) (.v (.bool false)) = .v (.bool (ix xs i).Writer):=by
 have:=fo xs i 1 (by decide) (.v (.bool false):SV) rfl
 rw [Fa] at this
 exact this
structure cX where
 Count:Int
 Line:(List Int)
 deriving Inhabited,DecidableEq
instance : bZ cX:=⟨2,λd=>[.v (.int .i64 d.Count),.sl d.Line.length (fl d.Line)],λ_=>rfl,λ_=>rfl,λ_=>by simp only [ip,SV.st,kO,db]⟩
@[push_cast] theorem IU:bZ.sz cX=2:=rfl
@[push_cast] theorem MX (d:cX):bZ.cells d=[.v (.int .i64 d.Count),.sl d.Line.length (fl d.Line)]:=rfl
@[push_cast] theorem Nx (xs:List cX) (x0:Int) (x1:(List Int)):fl xs++[.v (.int .i64 x0),.sl x1.length (fl x1)]=fl (xs++[cX.mk x0 x1]):=by rw [fG];rfl
@[push_cast] theorem KP (xs:List cX) (i:Int):(fl xs).getD (i.toNat*2) (.v (.int .i64 0)) = .v (.int .i64 (ix xs i).Count):=by
 have:=fo xs i 0 (by decide) (.v (.int .i64 0):SV) rfl
 rw [IU,eD] at this
 exact this
structure cz where
 Task:Int
 Op:Int
 Obj:Int
 Value:Int
 deriving Inhabited,DecidableEq
instance : bZ cz:=⟨4,λd=>[.v (.int .i64 d.Task),.v (.int .i64 d.Op),.v (.int .i64 d.Obj),.v (.int .i64 d.Value)],λ_=>rfl,λ_=>rfl,λ_=>by simp only [ip,SV.st,kO,db]⟩
@[push_cast] theorem Ny (xs:List cz):iT (fl xs)=true:=mX (λ_=>rfl) xs
@[push_cast] theorem tF:bZ.sz cz=4:=rfl
@[push_cast] theorem Mm (d:cz):bZ.cells d=[.v (.int .i64 d.Task),.v (.int .i64 d.Op),.v (.int .i64 d.Obj),.v (.int .i64 d.Value)]:=rfl
@[push_cast] theorem MY (xs:List cz) (x0:Int) (x1:Int) (x2:Int) (x3:Int):fl xs++[.v (.int .i64 x0),.v (.int .i64 x1),.v (.int .i64 x2),.v (.int .i64 x3)]=fl (xs++[cz.mk x0 x1 x2 x3]):=by rw [fG];rfl
@[push_cast] theorem KQ (xs:List cz) (i:Int):(fl xs).getD (i.toNat*4) (.v (.int .i64 0)) = .v (.int .i64 (ix xs i).Task):=by
 have:=fo xs i 0 (by decide) (.v (.int .i64 0):SV) rfl
 rw [tF,eD] at this
 exact this
@[push_cast] theorem Mn (xs:List cz) (i:Int):(fl xs).getD (i.toNat*4+1) (.v (.int .i64 0)) = .v (.int .i64 (ix xs i).Op):=by
 have:=fo xs i 1 (by decide) (.v (.int .i64 0):SV) rfl
 rw [tF] at this
 exact this
@[push_cast] theorem Lr (xs:List cz) (i:Int):(fl xs).getD (i.toNat*4+2) (.v (.int .i64 0)) = .v (.int .i64 (ix xs i).Obj):=by
 have:=fo xs i 2 (by decide) (.v (.int .i64 0):SV) rfl
 rw [tF] at this
 exact this
@[push_cast] theorem Jo (xs:List cz) (i:Int):(fl xs).getD (i.toNat*4+3) (.v (.int .i64 0)) = .v (.int .i64 (ix xs i).Value):=by
 have:=fo xs i 3 (by decide) (.v (.int .i64 0):SV) rfl
 rw [tF] at this
 exact this
structure fx where
 Next:Int
 List:(List Int)
 deriving Inhabited,DecidableEq
instance : bZ fx:=⟨2,λd=>[.v (.int .i64 d.Next),.sl d.List.length (fl d.List)],λ_=>rfl,λ_=>rfl,λ_=>by simp only [ip,SV.st,kO,db]⟩
@[push_cast] theorem KR:bZ.sz fx=2:=rfl
@[push_cast] theorem Nz (d:fx):bZ.cells d=[.v (.int .i64 d.Next),.sl d.List.length (fl d.List)]:=rfl
@[push_cast] theorem NZ (xs:List fx) (x0:Int) (x1:(List Int)):fl xs++[.v (.int .i64 x0),.sl x1.length (fl x1)]=fl (xs++[fx.mk x0 x1]):=by rw [fG];rfl
@[push_cast] theorem Mo (xs:List fx) (i:Int):(fl xs).getD (i.toNat*2) (.v (.int .i64 0)) = .v (.int .i64 (ix xs i).Next):=by
 have:=fo xs i 0 (by decide) (.v (.int .i64 0):SV) rfl
 rw [KR,eD] at this
 exact this
structure de where
 Task:Int
 Case:Int
 Value:Int
 Ok:Bool
 Panic:Bool
 deriving Inhabited,DecidableEq
instance : bZ de:=⟨5,λd=>[.v (.int .i64 d.Task),.v (.int .i64 d.Case),.v (.int .i64 d.Value),.v (.bool d.Ok),.v (.bool d.Panic)],λ_=>rfl,λ_=>rfl,λ_=>by simp only [ip,SV.st,kO,db]⟩
@[push_cast] theorem N0 (xs:List de):iT (fl xs)=true:=mX (λ_=>rfl) xs
@[push_cast] theorem sY:bZ.sz de=5:=rfl
@[push_cast] theorem MZ (d:de):bZ.cells d=[.v (.int .i64 d.Task),.v (.int .i64 d.Case),.v (.int .i64 d.Value),.v (.bool d.Ok),.v (.bool d.Panic)]:=rfl
@[push_cast] theorem NA (xs:List de) (x0:Int) (x1:Int) (x2:Int) (x3:Bool) (x4:Bool):fl xs++[.v (.int .i64 x0),.v (.int .i64 x1),.v (.int .i64 x2),.v (.bool x3),.v (.bool x4)]=fl (xs++[de.mk x0 x1 x2 x3 x4]):=by rw [fG];rfl
@[push_cast] theorem Ls (xs:List de) (i:Int):(fl xs).getD (i.toNat*5) (.v (.int .i64 0)) = .v (.int .i64 (ix xs i).Task):=by
 have:=fo xs i 0 (by decide) (.v (.int .i64 0):SV) rfl
 rw [sY,eD] at this
 exact this
@[push_cast] theorem Lt (xs:List de) (i:Int):(fl xs).getD (i.toNat*5+1) (.v (.int .i64 0)) = .v (.int .i64 (ix xs i).Case):=by
 have:=fo xs i 1 (by decide) (.v (.int .i64 0):SV) rfl
 rw [sY] at this
 exact this
@[push_cast] theorem KS (xs:List de) (i:Int):(fl xs).getD (i.toNat*5+2) (.v (.int .i64 0)) = .v (.int .i64 (ix xs i).Value):=by
 have:=fo xs i 2 (by decide) (.v (.int .i64 0):SV) rfl
 rw [sY] at this
 exact this
@[push_cast] theorem M0 (xs:List de) (i:Int):(fl xs).getD (i.toNat*5+3) (.v (.bool false)) = .v (.bool (ix xs i).Ok):=by
 have:=fo xs i 3 (by decide) (.v (.bool false):SV) rfl
 rw [sY] at this
 exact this
@[push_cast] theorem KT (xs:List de) (i:Int):(fl xs).getD (i.toNat*5+4) (.v (.bool false)) = .v (.bool (ix xs i).Panic):=by
 have:=fo xs i 4 (by decide) (.v (.bool false):SV) rfl
 rw [sY] at this
 exact this
structure lg where
 Done:Bool
 Panic:Bool
 Ok:Bool
 Value:Int
 Case:Int
 Wakes:(List de)
 deriving Inhabited,DecidableEq
instance : bZ lg:=⟨6,λd=>[.v (.bool d.Done),.v (.bool d.Panic),.v (.bool d.Ok),.v (.int .i64 d.Value),.v (.int .i64 d.Case),.sl d.Wakes.length (fl d.Wakes)],λ_=>rfl,λ_=>rfl,λ_=>by simp only [ip,SV.st,kO,db]⟩
@[push_cast] theorem rF:bZ.sz lg=6:=rfl
@[push_cast] theorem Mp (d:lg):bZ.cells d=[.v (.bool d.Done),.v (.bool d.Panic),.v (.bool d.Ok),.v (.int .i64 d.Value),.v (.int .i64 d.Case),.sl d.Wakes.length (fl d.Wakes)]:=rfl
@[push_cast] theorem M7 (xs:List lg) (x0:Bool) (x1:Bool) (x2:Bool) (x3:Int) (x4:Int) (x5:(List de)):fl xs++[.v (.bool x0),.v (.bool x1),.v (.bool x2),.v (.int .i64 x3),.v (.int .i64 x4),.sl x5.length (fl x5)]=fl (xs++[lg.mk x0 x1 x2 x3 x4 x5]):=by rw [fG];rfl
@[push_cast] theorem KU (xs:List lg) (i:Int):(fl xs).getD (i.toNat*6) (.v (.bool false)) = .v (.bool (ix xs i).Done):=by
 have:=fo xs i 0 (by decide) (.v (.bool false):SV) rfl
 rw [rF,eD] at this
 exact this
@[push_cast] theorem Jp (xs:List lg) (i:Int):(fl xs).getD (i.toNat*6+1) (.v (.bool false)) = .v (.bool (ix xs i).Panic):=by
 have:=fo xs i 1 (by decide) (.v (.bool false):SV) rfl
 rw [rF] at this
 exact this
@[push_cast] theorem Mq (xs:List lg) (i:Int):(fl xs).getD (i.toNat*6+2) (.v (.bool false)) = .v (.bool (ix xs i).Ok):=by
 have:=fo xs i 2 (by decide) (.v (.bool false):SV) rfl
 rw [rF] at this
 exact this
@[push_cast] theorem Jq (xs:List lg) (i:Int):(fl xs).getD (i.toNat*6+3) (.v (.int .i64 0)) = .v (.int .i64 (ix xs i).Value):=by
 have:=fo xs i 3 (by decide) (.v (.int .i64 0):SV) rfl
 rw [rF] at this
 exact this
@[push_cast] theorem KV (xs:List lg) (i:Int):(fl xs).getD (i.toNat*6+4) (.v (.int .i64 0)) = .v (.int .i64 (ix xs i).Case):=by
 have:=fo xs i 4 (by decide) (.v (.int .i64 0):SV) rfl
 rw [rF] at this
 exact this
structure jQ where
 Trace:(List cz)
 State:Int
 Steps:Int
 Now:Int
 Tasks:(List Int)
 Cells:(List Int)
 deriving Inhabited,DecidableEq
instance : bZ jQ:=⟨6,λd=>[.sl d.Trace.length (fl d.Trace),.v (.int .i64 d.State),.v (.int .i64 d.Steps),.v (.int .i64 d.Now),.sl d.Tasks.length (fl d.Tasks),.sl d.Cells.length (fl d.Cells)],λ_=>rfl,λ_=>rfl,λ_=>by simp only [ip,SV.st,kO,db]⟩
@[push_cast] theorem w7:bZ.sz jQ=6:=rfl
@[push_cast] theorem Mr (d:jQ):bZ.cells d=[.sl d.Trace.length (fl d.Trace),.v (.int .i64 d.State),.v (.int .i64 d.Steps),.v (.int .i64 d.Now),.sl d.Tasks.length (fl d.Tasks),.sl d.Cells.length (fl d.Cells)]:=rfl
@[push_cast] theorem M8 (xs:List jQ) (x0:(List cz)) (x1:Int) (x2:Int) (x3:Int) (x4:(List Int)) (x5:(List Int)):fl xs++[.sl x0.length (fl x0),.v (.int .i64 x1),.v (.int .i64 x2),.v (.int .i64 x3),.sl x4.length (fl x4),.sl x5.length (fl x5)]=fl (xs++[jQ.mk x0 x1 x2 x3 x4 x5]):=by rw [fG];rfl
@[push_cast] theorem Jr (xs:List jQ) (i:Int):(fl xs).getD (i.toNat*6+1) (.v (.int .i64 0)) = .v (.int .i64 (ix xs i).State):=by
 have:=fo xs i 1 (by decide) (.v (.int .i64 0):SV) rfl
 rw [w7] at this
 exact this
@[push_cast] theorem Js (xs:List jQ) (i:Int):(fl xs).getD (i.toNat*6+2) (.v (.int .i64 0)) = .v (.int .i64 (ix xs i).Steps):=by
 have:=fo xs i 2 (by decide) (.v (.int .i64 0):SV) rfl
 rw [w7] at this
 exact this
@[push_cast] theorem Lu (xs:List jQ) (i:Int):(fl xs).getD (i.toNat*6+3) (.v (.int .i64 0)) = .v (.int .i64 (ix xs i).Now):=by
 have:=fo xs i 3 (by decide) (.v (.int .i64 0):SV) rfl
 rw [w7] at this
 exact this
def hZ:List kind:=[⟨⟨#[]⟩,⟨#[]⟩⟩,⟨⟨#[115,101,116]⟩,⟨#[114,110]⟩⟩,⟨⟨#[99,111,112,121]⟩,⟨#[114,114]⟩⟩,⟨⟨#[97,100,100]⟩,⟨#[114,114]⟩⟩,⟨⟨#[115,117,98]⟩,⟨#[114,114]⟩⟩,⟨⟨#[108,101,115,115]⟩,⟨#[114,114]⟩⟩,⟨⟨#[106,117,109,112]⟩,⟨#[99,45]⟩⟩,⟨⟨#[122,101,114,111]⟩,⟨#[114,99]⟩⟩,⟨⟨#[112,114,105,110,116]⟩,⟨#[114,45]⟩⟩,⟨⟨#[101,110,100]⟩,⟨#[45,45]⟩⟩,⟨⟨#[121,105,101,108,100]⟩,⟨#[45,45]⟩⟩,⟨⟨#[103,111]⟩,⟨#[99,114]⟩⟩,⟨⟨#[108,111,97,100]⟩,⟨#[114,109]⟩⟩,⟨⟨#[115,116,111,114,101]⟩,⟨#[109,114]⟩⟩,⟨⟨#[115,101,110,100]⟩,⟨#[112,114]⟩⟩,⟨⟨#[103,101,116]⟩,⟨#[114,112]⟩⟩,⟨⟨#[115,104,117,116]⟩,⟨#[112,45]⟩⟩,⟨⟨#[108,111,99,107]⟩,⟨#[108,107]⟩⟩,⟨⟨#[117,110,108,111,99,107]⟩,⟨#[108,107]⟩⟩,⟨⟨#[99,111,117,110,116]⟩,⟨#[103,114]⟩⟩,⟨⟨#[119,97,105,116]⟩,⟨#[103,45]⟩⟩,⟨⟨#[115,108,101,101,112]⟩,⟨#[114,45]⟩⟩,⟨⟨#[112,97,110,105,99]⟩,⟨#[45,45]⟩⟩]
def fX:List ByteArray:=[⟨#[]⟩,⟨#[114,110]⟩,⟨#[114,114]⟩,⟨#[114,114]⟩,⟨#[114,114]⟩,⟨#[114,114]⟩,⟨#[99,45]⟩,⟨#[114,99]⟩,⟨#[114,45]⟩,⟨#[45,45]⟩,⟨#[45,45]⟩,⟨#[99,114]⟩,⟨#[114,109]⟩,⟨#[109,114]⟩,⟨#[112,114]⟩,⟨#[114,112]⟩,⟨#[112,45]⟩,⟨#[108,107]⟩,⟨#[108,107]⟩,⟨#[103,114]⟩,⟨#[103,45]⟩,⟨#[114,45]⟩,⟨#[45,45]⟩]
def nl (a b:Int):Option (cD):=(some ((cD.mk a b)))
def rG (p:cy) (k x:Int):Option (Bool):=(bif (k==110) then (some (true)) else (some (((decide ((0:Int)<=x))&&(decide (x<(fU [(114,8),(99,(p.Code.length:Int)),(109,p.Cells),(112,(p.Pipes.length:Int)),(108,p.Locks),(103,p.Groups),(107,2),(45,1)] k)))))))
def pt (a:Int) (b:Bool):Option (((Int) ⊕ (cD))):=(bif b then ((nl 5 a).bind λc=>(Option.map Sum.inr (some (c)))) else (some (Sum.inl ((i64.wrap (a+1))))))
def je (p:cy):Int->Option (((Int) ⊕ (cD))):=λa=>(bif (decide (a<(p.Code.length:Int))) then (bif ((decide ((0:Int)<=a))&&(decide (a<(p.Code.length:Int)))) then (bif ((decide ((ix p.Code a).Op<1))||(decide ((23:Int)<=(ix p.Code a).Op))) then ((nl 4 a).bind λd=>(Option.map Sum.inr (some (d)))) else (bif ((decide ((0:Int)<=(ix p.Code a).Op))&&(decide ((ix p.Code a).Op<(hZ.length:Int)))) then (bif (decide ((0:Int)<((((ix hZ (ix p.Code a).Op).args).size:Nat):Int))) then ((rG p ((((ix hZ (ix p.Code a).Op).args).data.getD ((0:Int)).toNat 0).toNat:Int) (ix p.Code a).A).bind λb=>(bif (!b) then (pt a true) else (bif (decide ((1:Int)<((((ix hZ (ix p.Code a).Op).args).size:Nat):Int))) then ((rG p ((((ix hZ (ix p.Code a).Op).args).data.getD ((1:Int)).toNat 0).toNat:Int) (ix p.Code a).B).bind λc=>(pt a (!c))) else none))) else none) else none)) else none) else (Option.map Sum.inr (some ((cD.mk 0 0)))))
def ma (p:cy):Int->Option (((Int) ⊕ (cD))):=λa=>(bif (decide (a<(p.Pipes.length:Int))) then (bif ((decide ((0:Int)<=a))&&(decide (a<(p.Pipes.length:Int)))) then (bif ((decide ((ix p.Pipes a)<0))||(decide ((100:Int)<(ix p.Pipes a)))) then ((nl 8 a).bind λb=>(Option.map Sum.inr (some (b)))) else (some (Sum.inl ((i64.wrap (a+1)))))) else none) else (Option.map Sum.inr (dG (je p) (0))))
def qh (p:cy):Option (cD):=(bif ((decide ((1000:Int)<(p.Code.length:Int)))||(decide ((20:Int)<(p.Pipes.length:Int)))) then ((nl 2 0).bind λb=>(some (b))) else (bif ((decide ((min (min p.Cells p.Locks) p.Groups)<0))||(decide ((20:Int)<(max (max p.Cells p.Locks) p.Groups)))) then ((nl 3 0).bind λa=>(some (a))) else (dG (ma p) (0))))
def pd (a b:Int):Option (cD):=(some ((cD.mk a b)))
def ke (p:cy) (c:List bV):Int×(List cR)->Option (((Int×List cR) ⊕ ((List Int)×List cq×List bV×List Int×List cR×List di×List cX))):=λ(a,b)=>(bif (decide (a<(p.Pipes.length:Int))) then (bif ((decide ((0:Int)<=a))&&(decide (a<(p.Pipes.length:Int)))) then (bif (decide ((b++([(cR.mk (ix p.Pipes a) [] false [] [])]:List cR)).length*88<=140737488355328)) then (some (Sum.inl ((i64.wrap (a+1)),(b++([(cR.mk (ix p.Pipes a) [] false [] [])]:List cR))))) else none) else none) else (Option.map Sum.inr (bif (decide (0<=p.Locks/\p.Locks<=4611686018427387904/\(40:Int)*p.Locks<=140737488355328)) then (bif (decide (0<=p.Groups/\p.Groups<=4611686018427387904/\(32:Int)*p.Groups<=140737488355328)) then (some ((List.replicate (p.Cells).toNat (default:Int)),([((cq.mk 0 (default:(dn 8)) 0 0 0):cq)]:List cq),c,([1]:List Int),b,(List.replicate (p.Locks).toNat (default:di)),(List.replicate (p.Groups).toNat (default:cX)))) else none) else none)))
def kf (p:cy) (c:Int):Int×(List bV)->Option (((Int×List bV) ⊕ ((List Int)×List cq×List bV×List Int×List cR×List di×List cX))):=λ(b,a)=>(bif (decide (b<c)) then (bif (decide ((a++[((bV.mk 0 0 []):bV)]).length*8<=140737488355328)) then (some (Sum.inl ((i64.wrap (b+1)),(a++[((bV.mk 0 0 []):bV)])))) else none) else (Option.map Sum.inr (dG (ke p a) (0,[]))))
def lP (p:cy) (a:Int):Option ((List Int)×List cq×List bV×List Int×List cR×List di×List cX):=(bif (decide (0<=p.Cells/\p.Cells<=4611686018427387904/\(8:Int)*p.Cells<=140737488355328)) then (dG (kf p a) (0,[])) else none)
def iz (m:(List (PT cq))) (t:Int):Option (cq):=(bif ((decide ((0:Int)<=(i64.wrap (t-1))))&&(decide ((i64.wrap (t-1))<(m.length:Int)))) then (some ((ix m (i64.wrap (t-1))).x)) else none)
def nD (x:Int):Option (Bool):=(some ((x != x)))
def kQ (x y:Int):Option (Int):=((nD x).bind λb=>((nD y).bind λa=>(bif b then (bif a then (some (0)) else (some ((-1)))) else (bif a then (some (1)) else (bif (decide (x<y)) then (some ((-1))) else (bif (decide (y<x)) then (some (1)) else (some (0))))))))
def pu (b:List Int):Int->Option (((Int) ⊕ (Int))):=λa=>(bif (decide (a<(b.length:Int))) then (bif ((decide ((0:Int)<=a))&&(decide (a<(b.length:Int)))) then (bif ((ix b a) != 0) then (Option.map Sum.inr (some ((ix b a)))) else (some (Sum.inl ((i64.wrap (a+1)))))) else none) else (Option.map Sum.inr (some (0))))
def qi (a:List Int):Option (Int):=(dG (pu a) (0))
def eE (j b:Int) (i:(List (PT cq))):Option (Int):=((iz i j).bind λf=>((iz i b).bind λg=>((kQ f.when g.when).bind λd=>((iz i j).bind λc=>((iz i b).bind λa=>((kQ c.seq a.seq).bind λe=>((qi ([d,e]:List Int)).bind λh=>(some (h)))))))))
def kg (c0:List Int) (ts:(List (PT cq))):Option (List Int):=open Classical in if (∀ a b:Int,1<=a/\a<=((((c0.foldl max 0).toNat):Nat):Int)->1<=b/\b<=((((c0.foldl max 0).toNat):Nat):Int)->(eE a b ts).isSome=true)/\Go.Sort.SWO (Go.Proofs.ltOf λ(a b:Rg ((c0.foldl max 0).toNat))=>(λa b:Int=>(eE a b ts).getD 0) a.1 b.1)/\(∀ x∈c0,1<=x/\x<=((((c0.foldl max 0).toNat):Nat):Int))/\c0.length<4611686018427387904 then some (oL ((c0.foldl max 0).toNat) (λa b:Int=>(eE a b ts).getD 0) c0) else none
def iM (b:Int) (c:List cq) (a:List Int):Option (((Int×List cq×List Int) ⊕ (Int×List Int×List cq))):=(some (Sum.inl ((i64.wrap (b+1)),c,a)))
def j8 (c:Int) (g:List cq) (f:List Int):Int×List cq×(List Int)->Option (((Int×List cq×List Int) ⊕ (Int×List Int×List cq))):=λ(a,b,d)=>(bif (decide (a<(g.length:Int))) then (bif ((decide ((0:Int)<=a))&&(decide (a<(b.length:Int)))) then (bif (((ix b a).state==2)&&(decide ((ix b a).when<=(i64.wrap (c+1))))) then (bif (decide ((d++([(i64.wrap (a+1))]:List Int)).length*8<=140737488355328)) then (iM a (b.set a.toNat ((cq.mk (ix b a).pc (ix b a).r 0 (ix b a).when (ix b a).seq):cq)) (d++([(i64.wrap (a+1))]:List Int))) else none) else (iM a b d)) else none) else (Option.map Sum.inr ((kg d (b.map PT.mk)).bind λe=>(bif (decide (e.length=d.length)) then (bif (decide ((f++e).length*8<=140737488355328)) then (some ((i64.wrap (c+1)),(f++e),b)) else none) else none))))
def jR (a:Int) (b:List cq) (c:List Int):Option (Int×List Int×List cq):=(dG (j8 a b c) (0,b,[]))
def ib (a b:Int):Option (cD):=(some ((cD.mk a b)))
def mb (q:fx):Int×(List (Int×Int))->Option (((Int×(List (Int×Int))) ⊕ (cD))):=λ(a,b)=>(bif (decide (a<(q.List.length:Int))) then (bif ((decide ((0:Int)<=a))&&(decide (a<(q.List.length:Int)))) then (bif (decide ((ix q.List a)<1)) then ((ib 3 (i64.wrap (a+1))).bind λd=>(Option.map Sum.inr (some (d)))) else (bif (decide ((0:Int)<(fU b (ix q.List a)))) then ((ib 10 (i64.wrap (a+1))).bind λc=>(Option.map Sum.inr (some (c)))) else (some (Sum.inl ((i64.wrap (a+1)),(iu b (ix q.List a) 1)))))) else none) else (Option.map Sum.inr (some ((cD.mk 0 0)))))
def nE (q:fx) (a:(List (Int×Int))):Option (cD):=(dG (mb q) (0,a))
def kz (q:fx):Option (cD):=(bif (decide ((256:Int)<(q.List.length:Int))) then ((ib 2 0).bind λa=>(some (a))) else (bif (decide (q.Next<0)) then ((ib 3 0).bind λb=>(some (b))) else (bif (decide ((0:Int)<q.Next)) then (nE q (iu [] q.Next 1)) else (nE q []))))
def fd (s:List Int):Option ((List Int)):=(bif (decide ((([]:List Int)++s).length*8<=140737488355328)) then (some ((([]:List Int)++s))) else none)
def kA (q:fx):Option ((List Int)):=((fd q.List).bind λa=>(some (a)))
def iW (q:fx):Option (Int×Int×cD×List Int):=((kz q).bind λb=>(bif (b.Code != 0) then (some (0,0,b,[])) else ((kA q).bind λa=>(bif (decide ((0:Int)<q.Next)) then (some (0,q.Next,(cD.mk 0 0),a)) else (bif ((a.length:Int)==0) then ((ib 6 0).bind λc=>(some (0,0,c,[]))) else (bif (decide ((0:Int)<(a.length:Int))) then (bif (decide ((1:Int)<=(a.length:Int))) then ((fd (cut a (1:Int) (a.length:Int))).bind λd=>(some (q.Next,(ix a (0:Int)),(cD.mk 0 0),d))) else none) else none))))))
def fL (c:Int) (b:cD) (a:List bV):Option (Bool×List bV):=(bif (decide (0<=c/\c<(a.length:Int))) then (some ((b.Code==0),a)) else none)
def dU (b:Int) (c:List bV):Option (Bool×List bV):=(bif (decide (0<=b/\b<(c.length:Int))) then ((iW (fx.mk (ix c b).Ring_Next (ix c b).Ring_List)).bind λa=>((λz0:List bV=>(bif (a.2.2.1.Code==0) then (fL b a.2.2.1 (z0.set b.toNat ((bV.mk a.2.1 (ix z0 b).Ring_Next (ix z0 b).Ring_List):bV))) else (fL b a.2.2.1 c))) (c.set b.toNat ((bV.mk (ix c b).now a.1 a.2.2.2):bV)))) else none)
def mH (q:fx):Option ((List Int)):=(bif (decide ((0:Int)<q.Next)) then (bif (decide ((([q.Next]:List Int)++q.List).length*8<=140737488355328)) then (some ((([q.Next]:List Int)++q.List))) else none) else ((fd q.List).bind λa=>(some (a))))
def nm (b:List Int):Int×(List (Int×Int))->Option (((Int×(List (Int×Int))) ⊕ (Int))):=λ(a,c)=>(bif (decide (a<(b.length:Int))) then (bif ((decide ((0:Int)<=a))&&(decide (a<(b.length:Int)))) then (bif (decide ((0:Int)<(fU c (ix b a)))) then (Option.map Sum.inr (some (a))) else (some (Sum.inl ((i64.wrap (a+1)),(iu c (ix b a) 1))))) else none) else (Option.map Sum.inr (some ((-1)))))
def np (d b:List Int):Int×(List (Int×Int))->Option (((Int×(List (Int×Int))) ⊕ (Int))):=λ(a,c)=>(bif (decide (a<(d.length:Int))) then (bif ((decide ((0:Int)<=a))&&(decide (a<(d.length:Int)))) then (some (Sum.inl ((i64.wrap (a+1)),(iu c (ix d a) 1)))) else none) else (Option.map Sum.inr (dG (nm b) (0,c))))
def mc (a b:List Int):Option (Int):=(dG (np a b) (0,[]))
def km (q:fx) (a:Int) (c:List Int):Int->Option (((Int) ⊕ (Int×cD×List Int×List Int))):=λb=>(bif (decide (b<(c.length:Int))) then (bif ((decide ((0:Int)<=b))&&(decide (b<(c.length:Int)))) then (bif (decide ((ix c b)<1)) then ((ib 5 b).bind λj=>(Option.map Sum.inr (some (0,j,[],[])))) else (some (Sum.inl ((i64.wrap (b+1)))))) else none) else (Option.map Sum.inr ((mH q).bind λf=>((mc f c).bind λd=>(bif (decide ((0:Int)<=d)) then ((ib 8 d).bind λi=>(some (0,i,[],[]))) else (bif ((decide (a<1))||(decide ((64:Int)<a))) then ((ib 3 (-1)).bind λg=>(some (0,g,[],[]))) else (bif (a != 0) then ((kA q).bind λe=>(bif ((decide ((0:Int)<=(min (min (min (i64.wrap ((i64.wrap (Int.tdiv (c.length:Int) a))+1)) (c.length:Int)) 128) (i64.wrap ((256:Int)-(q.List.length:Int))))))&&(decide ((min (min (min (i64.wrap ((i64.wrap (Int.tdiv (c.length:Int) a))+1)) (c.length:Int)) 128) (i64.wrap ((256:Int)-(q.List.length:Int))))<=(c.length:Int)))) then (bif (decide ((e++(cut c (0:Int) (min (min (min (i64.wrap ((i64.wrap (Int.tdiv (c.length:Int) a))+1)) (c.length:Int)) 128) (i64.wrap ((256:Int)-(q.List.length:Int)))))).length*8<=140737488355328)) then (bif ((decide ((0:Int)<=(min (min (min (i64.wrap ((i64.wrap (Int.tdiv (c.length:Int) a))+1)) (c.length:Int)) 128) (i64.wrap ((256:Int)-(q.List.length:Int))))))&&(decide ((min (min (min (i64.wrap ((i64.wrap (Int.tdiv (c.length:Int) a))+1)) (c.length:Int)) 128) (i64.wrap ((256:Int)-(q.List.length:Int))))<=(c.length:Int)))) then ((fd (cut c (min (min (min (i64.wrap ((i64.wrap (Int.tdiv (c.length:Int) a))+1)) (c.length:Int)) 128) (i64.wrap ((256:Int)-(q.List.length:Int)))) (c.length:Int))).bind λh=>(some (q.Next,(cD.mk 0 0),(e++(cut c (0:Int) (min (min (min (i64.wrap ((i64.wrap (Int.tdiv (c.length:Int) a))+1)) (c.length:Int)) 128) (i64.wrap ((256:Int)-(q.List.length:Int)))))),h))) else none) else none) else none)) else none)))))))
def jf (q:fx) (b:Int) (d:List Int):Option (Int×cD×List Int×List Int):=((kz q).bind λa=>(bif (a.Code != 0) then (some (0,a,[],[])) else (bif (decide ((5000:Int)<(d.length:Int))) then ((ib 2 (-1)).bind λc=>(some (0,c,[],[]))) else (dG (km q b d) (0)))))
def jg (c f:fx) (l:Bool):Int->Option (((Int) ⊕ (Int×Int×Int×cD×List Int×List Int))):=λd=>(bif (decide (d<((([c,f]:List fx).length:Nat):Int))) then (bif ((decide ((0:Int)<=d))&&(decide (d<((([c,f]:List fx).length:Nat):Int)))) then ((kz (ix ([c,f]:List fx) d)).bind λe=>(bif (e.Code != 0) then (Option.map Sum.inr (some (0,0,0,e,[],[]))) else (some (Sum.inl ((i64.wrap (d+1))))))) else none) else (Option.map Sum.inr ((mH c).bind λg=>((mH f).bind λi=>((mc g i).bind λk=>(bif (decide ((0:Int)<=k)) then ((ib 8 0).bind λh=>(some (0,0,0,h,[],[]))) else ((kA c).bind λa=>((kA f).bind λb=>(bif ((a.length:Int)==0) then (bif ((!l)||((c.Next==0)||((i64.wrap ((256:Int)-(b.length:Int)))==0))) then (some (c.Next,f.Next,0,(cD.mk 0 0),a,b)) else (bif (decide ((b++([c.Next]:List Int)).length*8<=140737488355328)) then (some (0,f.Next,1,(cD.mk 0 0),a,(b++([c.Next]:List Int)))) else none)) else (bif ((decide ((0:Int)<=(min (i64.wrap ((a.length:Int)-(i64.wrap (Int.tdiv (a.length:Int) 2)))) (i64.wrap ((256:Int)-(b.length:Int))))))&&(decide ((min (i64.wrap ((a.length:Int)-(i64.wrap (Int.tdiv (a.length:Int) 2)))) (i64.wrap ((256:Int)-(b.length:Int))))<=(a.length:Int)))) then (bif (decide ((b++(cut a (0:Int) (min (i64.wrap ((a.length:Int)-(i64.wrap (Int.tdiv (a.length:Int) 2)))) (i64.wrap ((256:Int)-(b.length:Int)))))).length*8<=140737488355328)) then (bif ((decide ((0:Int)<=(min (i64.wrap ((a.length:Int)-(i64.wrap (Int.tdiv (a.length:Int) 2)))) (i64.wrap ((256:Int)-(b.length:Int))))))&&(decide ((min (i64.wrap ((a.length:Int)-(i64.wrap (Int.tdiv (a.length:Int) 2)))) (i64.wrap ((256:Int)-(b.length:Int))))<=(a.length:Int)))) then ((fd (cut a (min (i64.wrap ((a.length:Int)-(i64.wrap (Int.tdiv (a.length:Int) 2)))) (i64.wrap ((256:Int)-(b.length:Int)))) (a.length:Int))).bind λj=>(some (c.Next,f.Next,(min (i64.wrap ((a.length:Int)-(i64.wrap (Int.tdiv (a.length:Int) 2)))) (i64.wrap ((256:Int)-(b.length:Int)))),(cD.mk 0 0),j,(b++(cut a (0:Int) (min (i64.wrap ((a.length:Int)-(i64.wrap (Int.tdiv (a.length:Int) 2)))) (i64.wrap ((256:Int)-(b.length:Int))))))))) else none) else none) else none))))))))))
def nt (a c:fx) (b:Bool):Option (Int×Int×Int×cD×List Int×List Int):=(dG (jg a c b) (0))
def j9 (p:Int) (e:List Int):Int×(List bV)->Option (((Int×List bV) ⊕ (Bool×List Int×List bV))):=λ(d,a)=>(bif (decide (0<=p/\p<(a.length:Int))) then (bif (decide (d<(a.length:Int))) then (bif ((a.length:Int) != 0) then (bif ((decide ((0:Int)<=(Int.tmod (i64.wrap (p+d)) (a.length:Int))))&&(decide ((Int.tmod (i64.wrap (p+d)) (a.length:Int))<(a.length:Int)))) then ((nt (fx.mk (ix a (Int.tmod (i64.wrap (p+d)) (a.length:Int))).Ring_Next (ix a (Int.tmod (i64.wrap (p+d)) (a.length:Int))).Ring_List) (fx.mk (ix a p).Ring_Next (ix a p).Ring_List) true).bind λb=>(bif (decide ((0:Int)<b.2.2.1)) then ((λz0:List bV=>((λz1:List bV=>((dU p z1).bind λc=>(bif (decide (c.2.length=z1.length)) then (bif (decide (0<=p/\p<(c.2.length:Int))) then (Option.map Sum.inr (some (c.1,e,c.2))) else none) else none))) (z0.set p.toNat ((bV.mk (ix z0 p).now b.2.1 b.2.2.2.2.2):bV)))) (a.set (Int.tmod (i64.wrap (p+d)) (a.length:Int)).toNat ((bV.mk (ix a (Int.tmod (i64.wrap (p+d)) (a.length:Int))).now b.1 b.2.2.2.2.1):bV))) else (some (Sum.inl ((i64.wrap (d+1)),a))))) else none) else none) else (Option.map Sum.inr (some (false,e,a)))) else none)
def gm (p:Int) (e:List bV) (d:List Int):Option (Bool×List Int×List bV):=(bif ((decide ((0:Int)<=p))&&(decide (p<(e.length:Int)))) then ((dU p e).bind λa=>(bif (decide (a.2.length=e.length)) then (bif (decide (0<=p/\p<(a.2.length:Int))) then (bif a.1 then (some (true,d,a.2)) else (bif (decide ((0:Int)<(d.length:Int))) then ((jf (fx.mk (ix a.2 p).Ring_Next (ix a.2 p).Ring_List) (a.2.length:Int) d).bind λb=>((λz0:List bV=>((dU p z0).bind λc=>(bif (decide (c.2.length=z0.length)) then (bif (decide (0<=p/\p<(c.2.length:Int))) then (some (c.1,b.2.2.2,c.2)) else none) else none))) (a.2.set p.toNat ((bV.mk (ix a.2 p).now b.1 b.2.2.1):bV)))) else (dG (j9 p d) (1,a.2)))) else none) else none)) else none)
def dL (t:Int) (a:List cq):Option (Int):=(bif ((decide ((0:Int)<=(i64.wrap (t-1))))&&(decide ((i64.wrap (t-1))<(a.length:Int)))) then (some ((i64.wrap (t-1)))) else none)
def oM (a:Int):Option (Bool):=(some (((decide ((1:Int)<=a))&&(decide (a<=7)))))
def gD (b:Int) (a:List cq):Option (Int×List cq):=(some ((i64.wrap (b+1)),a))
def md (c:dg) (d b:Int) (a:List cq):Option (Int×List cq):=(bif (decide (0<=b/\b<(a.length:Int))) then (bif (c.Op==1) then (bif ((decide ((0:Int)<=c.A))&&(decide (c.A<((8:Nat):Int)))) then (gD d (a.set b.toNat ((cq.mk (ix a b).pc ((ix a b).r.set c.A c.B) (ix a b).state (ix a b).when (ix a b).seq):cq))) else none) else (bif (c.Op==2) then (bif ((decide ((0:Int)<=c.B))&&(decide (c.B<((8:Nat):Int)))) then (bif ((decide ((0:Int)<=c.A))&&(decide (c.A<((8:Nat):Int)))) then (gD d (a.set b.toNat ((cq.mk (ix a b).pc ((ix a b).r.set c.A ((ix a b).r.get c.B)) (ix a b).state (ix a b).when (ix a b).seq):cq))) else none) else none) else (bif (c.Op==3) then (bif ((decide ((0:Int)<=c.A))&&(decide (c.A<((8:Nat):Int)))) then (bif ((decide ((0:Int)<=c.B))&&(decide (c.B<((8:Nat):Int)))) then (gD d (a.set b.toNat ((cq.mk (ix a b).pc ((ix a b).r.set c.A (i64.wrap (((ix a b).r.get c.A)+((ix a b).r.get c.B)))) (ix a b).state (ix a b).when (ix a b).seq):cq))) else none) else none) else (bif (c.Op==4) then (bif ((decide ((0:Int)<=c.A))&&(decide (c.A<((8:Nat):Int)))) then (bif ((decide ((0:Int)<=c.B))&&(decide (c.B<((8:Nat):Int)))) then (gD d (a.set b.toNat ((cq.mk (ix a b).pc ((ix a b).r.set c.A (i64.wrap (((ix a b).r.get c.A)-((ix a b).r.get c.B)))) (ix a b).state (ix a b).when (ix a b).seq):cq))) else none) else none) else (bif (c.Op==5) then (bif ((decide ((0:Int)<=c.A))&&(decide (c.A<((8:Nat):Int)))) then (bif ((decide ((0:Int)<=c.B))&&(decide (c.B<((8:Nat):Int)))) then (gD d (a.set b.toNat ((cq.mk (ix a b).pc ((ix a b).r.set c.A (mQ [(true,1)] (decide (((ix a b).r.get c.A)<((ix a b).r.get c.B))))) (ix a b).state (ix a b).when (ix a b).seq):cq))) else none) else none) else (bif (c.Op==6) then (some (c.A,a)) else (bif (c.Op==7) then (bif ((decide ((0:Int)<=c.A))&&(decide (c.A<((8:Nat):Int)))) then (bif (((ix a b).r.get c.A)==0) then (some (c.B,a)) else (gD d a)) else none) else (gD d a)))))))) else none)
def dq (t d b a:Int) (c:List cz):Option ((List cz)):=(bif (decide ((c++([(cz.mk t d b a)]:List cz)).length*32<=140737488355328)) then (some ((c++([(cz.mk t d b a)]:List cz)))) else none)
def iY (c t:Int) (b:List cq) (d:List bV) (e:List Int):Option (Bool×List Int×List cq×List bV):=(bif (decide (0<=c/\c<(d.length:Int))) then ((dL t b).bind λa=>(bif (decide (0<=a/\a<(b.length:Int))) then (bif (decide ((e++([t]:List Int)).length*8<=140737488355328)) then (some (false,(e++([t]:List Int)),(b.set a.toNat ((cq.mk (i64.wrap ((ix b a).pc+1)) (ix b a).r (ix b a).state (ix b a).when (ix b a).seq):cq)),(d.set c.toNat ((bV.mk 0 (ix d c).Ring_Next (ix d c).Ring_List):bV)))) else none) else none)) else none)
def iZ (s:List Int) (v:Int):Int->Option (((Int) ⊕ (Int))):=λa=>(bif (decide (a<(s.length:Int))) then (bif ((decide ((0:Int)<=a))&&(decide (a<(s.length:Int)))) then (bif (v==(ix s a)) then (Option.map Sum.inr (some (a))) else (some (Sum.inl ((i64.wrap (a+1)))))) else none) else (Option.map Sum.inr (some ((-1)))))
def nu (s:List Int) (v:Int):Option (Int):=(dG (iZ s v) (0))
def h_ (s:List Int) (v:Int):Option (Bool):=((nu s v).bind λa=>(some ((decide ((0:Int)<=a)))))
def q_ (t:Int) (b:List Int):Option ((List Int)×List Int):=(bif (decide ((b.length:Int)<256)) then (bif (decide ((b++([t]:List Int)).length*8<=140737488355328)) then (some ([],(b++([t]:List Int)))) else none) else (bif (decide ((128:Int)<=(b.length:Int))) then ((fd (cut b (0:Int) (128:Int))).bind λa=>(bif (decide ((a++([t]:List Int)).length*8<=140737488355328)) then (bif (decide ((128:Int)<=(b.length:Int))) then ((fd (cut b (128:Int) (b.length:Int))).bind λc=>(some ((a++([t]:List Int)),c))) else none) else none)) else none))
def pe (c a:Int) (d:List Int):Option (Int×cD×List Int×List Int):=((q_ c d).bind λb=>(some (a,(cD.mk 0 0),b.2,b.1)))
def qP (q:fx) (a:Int) (f:Bool):Option (Int×cD×List Int×List Int):=((kz q).bind λc=>(bif (c.Code != 0) then (some (0,c,[],[])) else (bif (decide (a<1)) then ((ib 3 (-1)).bind λe=>(some (0,e,[],[]))) else ((mH q).bind λg=>((h_ g a).bind λd=>(bif d then ((ib 10 (-1)).bind λh=>(some (0,h,[],[]))) else ((kA q).bind λb=>(bif f then (bif (q.Next==0) then (some (a,(cD.mk 0 0),b,[])) else (pe q.Next a b)) else (pe a q.Next b)))))))))
def i0 (d t:Int) (c:List cq) (e:List bV) (f:List Int):Option ((List Int)×List cq×List bV):=(bif (decide (0<=d/\d<(e.length:Int))) then ((qP (fx.mk (ix e d).Ring_Next (ix e d).Ring_List) t true).bind λb=>(bif (decide ((f++b.2.2.2).length*8<=140737488355328)) then ((dL t c).bind λa=>(bif (decide (0<=a/\a<(c.length:Int))) then (some ((f++b.2.2.2),(c.set a.toNat ((cq.mk (ix c a).pc (ix c a).r 0 (ix c a).when (ix c a).seq):cq)),(e.set d.toNat ((bV.mk (ix e d).now b.1 b.2.2.1):bV)))) else none)) else none)) else none)
def jh (a b:Int):Option (cD):=(some ((cD.mk a b)))
def px (l:List cI):Int×(List (Int×Int))->Option (((Int×(List (Int×Int))) ⊕ (Int×(List (Int×Int))))):=λ(a,b)=>(bif (decide (a<(l.length:Int))) then (bif ((decide ((0:Int)<=a))&&(decide (a<(l.length:Int)))) then (bif ((decide ((ix l a).Task<1))||(decide ((ix l a).Case<0))) then (Option.map Sum.inr (some (3,b))) else (bif (decide ((0:Int)<(fU b (ix l a).Task))) then (Option.map Sum.inr (some (10,b))) else (some (Sum.inl ((i64.wrap (a+1)),(iu b (ix l a).Task 1)))))) else none) else (Option.map Sum.inr (some (0,b))))
def qj (l:List cI) (a:(List (Int×Int))):Option (Int×(List (Int×Int))):=(dG (px l) (0,a))
def nG (p:cR):Int->Option (((Int) ⊕ (cD))):=λa=>(bif (decide (a<(p.Getters.length:Int))) then (bif ((decide ((0:Int)<=a))&&(decide (a<(p.Getters.length:Int)))) then (bif ((ix p.Getters a).Value != 0) then ((jh 5 2).bind λb=>(Option.map Sum.inr (some (b)))) else (some (Sum.inl ((i64.wrap (a+1)))))) else none) else (Option.map Sum.inr (some ((cD.mk 0 0)))))
def oN (p:cR):Option (cD):=(bif (decide ((5000:Int)<(i64.wrap ((i64.wrap ((p.Items.length:Int)+(p.Senders.length:Int)))+(p.Getters.length:Int))))) then ((jh 2 0).bind λf=>(some (f))) else (bif ((decide (p.Cap<0))||(decide ((1000:Int)<p.Cap))) then ((jh 3 0).bind λc=>(some (c))) else (bif (decide (p.Cap<(p.Items.length:Int))) then ((jh 8 0).bind λh=>(some (h))) else (bif (bif (decide ((0:Int)<(p.Senders.length:Int))) then (p.Closed||((decide ((p.Items.length:Int)<p.Cap))||((decide ((0:Int)<(p.Getters.length:Int)))||((decide ((0:Int)<(p.Getters.length:Int)))&&(p.Closed||(decide ((0:Int)<(p.Items.length:Int)))))))) else ((decide ((0:Int)<(p.Getters.length:Int)))&&(p.Closed||(decide ((0:Int)<(p.Items.length:Int)))))) then ((jh 5 0).bind λg=>(some (g))) else ((qj p.Senders []).bind λa=>(bif (a.1 != 0) then ((jh a.1 1).bind λd=>(some (d))) else ((qj p.Getters a.2).bind λb=>(bif (b.1 != 0) then ((jh b.1 2).bind λe=>(some (e))) else (dG (nG p) (0))))))))))
def qk (x:cI) (a:Int):Option (Bool):=(some ((x.Task==a)))
def iA (s:List cI) (f:Int):Int->Option (((Int) ⊕ (Int))):=λa=>(bif (decide (a<(s.length:Int))) then (bif ((decide ((0:Int)<=a))&&(decide (a<(s.length:Int)))) then ((qk (ix s a) f).bind λb=>(bif b then (Option.map Sum.inr (some (a))) else (some (Sum.inl ((i64.wrap (a+1))))))) else none) else (Option.map Sum.inr (some ((-1)))))
def kR (s:List cI) (f:Int):Option (Int):=(dG (iA s f) (0))
def gH (s:List cI) (f:Int):Option (Bool):=((kR s f).bind λa=>(some ((decide ((0:Int)<=a)))))
def nH (a:Bool):Option (Bool):=(some (a))
def sb (p:cR) (a:Int):Option (Bool):=((gH p.Senders a).bind λb=>(bif b then (nH true) else ((gH p.Getters a).bind λc=>(nH c))))
def oO (p:cR) (a:Int):Option (cD):=((oN p).bind λb=>(bif (b.Code != 0) then (some (b)) else (bif (decide (a<1)) then ((jh 3 (-1)).bind λd=>(some (d))) else ((sb p a).bind λc=>(bif c then ((jh 10 (-1)).bind λf=>(some (f))) else (bif ((i64.wrap ((i64.wrap ((p.Items.length:Int)+(p.Senders.length:Int)))+(p.Getters.length:Int)))==5000) then ((jh 9 0).bind λe=>(some (e))) else (some ((cD.mk 0 0)))))))))
def jZ (s:List cI):Option ((List cI)):=(bif (decide ((([]:List cI)++s).length*24<=140737488355328)) then (some ((([]:List cI)++s))) else none)
def ot (p:cR):Option ((List Int)×List cI×List cI):=((fd p.Items).bind λa=>((jZ p.Senders).bind λc=>((jZ p.Getters).bind λb=>(some (a,c,b)))))
def se (x:cI) (c:Int) (a:Bool) (d:List Int) (b:List cI):Option (Bool×Bool×Int×List de×List Int×List cI):=(bif a then (some (true,true,x.Case,[],d,b)) else (bif (decide ((0:Int)<(b.length:Int))) then (bif (decide ((0:Int)<(b.length:Int))) then (bif (decide ((1:Int)<=(b.length:Int))) then (some (true,false,x.Case,([(de.mk (ix b (0:Int)).Task (ix b (0:Int)).Case x.Value true false)]:List de),d,(cut b (1:Int) (b.length:Int)))) else none) else none) else (bif (decide ((d.length:Int)<c)) then (bif (decide ((d++([x.Value]:List Int)).length*8<=140737488355328)) then (some (true,false,x.Case,[],(d++([x.Value]:List Int)),b)) else none) else (some (false,false,0,[],d,b)))))
def ou (p:cR) (c a:Bool) (b:Int) (d:List Int) (e f:List cI) (g:List de):Option (Int×Bool×Bool×Bool×Int×cD×List Int×List cI×List cI×List de):=(some (p.Cap,p.Closed,c,a,b,(cD.mk 0 0),d,e,f,g))
def my (p:cR) (c d:Int) (f:Bool):Option (Int×Bool×Bool×Bool×Int×cD×List Int×List cI×List cI×List de):=((oO p c).bind λe=>(bif (e.Code != 0) then (some (0,false,false,false,0,e,[],[],[],[])) else ((ot p).bind λb=>((se (cI.mk c 0 d) p.Cap p.Closed b.1 b.2.2).bind λa=>(bif ((!a.1)&&(!f)) then (bif (decide ((b.2.1++([(cI.mk c 0 d)]:List cI)).length*24<=140737488355328)) then (ou p a.1 a.2.1 a.2.2.1 a.2.2.2.2.1 (b.2.1++([(cI.mk c 0 d)]:List cI)) a.2.2.2.2.2 a.2.2.2.1) else none) else (ou p a.1 a.2.1 a.2.2.1 a.2.2.2.2.1 b.2.1 a.2.2.2.2.2 a.2.2.2.1))))))
def dH (t b:Int) (c:List cz):Option ((List cz)):=((dq t 22 b 0 c).bind λa=>(some (a)))
def fY (t:Int) (b:List cq):Option (Bool×List cq):=((dL t b).bind λa=>(bif (decide (0<=a/\a<(b.length:Int))) then (some (false,(b.set a.toNat ((cq.mk (ix b a).pc (ix b a).r 1 (ix b a).when (ix b a).seq):cq)))) else none))
def gB (t:Int) (d:dg) (c:Int) (g:Bool) (f:List cz) (b:List cq):Option ((List cz)×List cq):=((dL t b).bind λa=>(bif (decide (0<=a/\a<(b.length:Int))) then (bif ((decide ((0:Int)<=d.A))&&(decide (d.A<((8:Nat):Int)))) then ((dq t 15 d.B c f).bind λe=>((λz0:List cq=>(some (e,(z0.set a.toNat ((cq.mk (ix z0 a).pc ((ix z0 a).r.set (7:Int) (mQ [(true,1)] g)) (ix z0 a).state (ix z0 a).when (ix z0 a).seq):cq))))) (b.set a.toNat ((cq.mk (ix b a).pc ((ix b a).r.set d.A c) (ix b a).state (ix b a).when (ix b a).seq):cq)))) else none) else none))
def fV (d t:Int) (c:List cq) (e:List bV) (f:List Int):Option ((List Int)×List cq×List bV):=(bif (decide (0<=d/\d<(e.length:Int))) then ((dL t c).bind λa=>(bif (decide (0<=a/\a<(c.length:Int))) then ((i0 d t (c.set a.toNat ((cq.mk (i64.wrap ((ix c a).pc+1)) (ix c a).r (ix c a).state (ix c a).when (ix c a).seq):cq)) e f).bind λb=>(bif (decide (0<=d/\d<(b.2.2.length:Int))) then (some (b.1,b.2.1,b.2.2)) else none)) else none)) else none)
def g9 (g:Int) (l:List de) (b:Int) (d:List bV) (f:List Int) (e:List cq) (c:List cz):Option (((Int×List cq×List bV×List cz×List Int) ⊕ (Int×List cz×List Int×List cq×List bV))):=(bif (decide (0<=g/\g<(d.length:Int))) then ((fV g (ix l b).Task e d f).bind λa=>(bif (decide (0<=g/\g<(a.2.2.length:Int))) then (some (Sum.inl ((i64.wrap (b+1)),a.2.1,a.2.2,c,a.1))) else none)) else none)
def eY (n p:Int) (l:List de) (a:List dg) (e:Int):Int×List cq×List bV×List cz×(List Int)->Option (((Int×List cq×List bV×List cz×List Int) ⊕ (Int×List cz×List Int×List cq×List bV))):=λ(c,b,h,f,g)=>(bif (decide (0<=n/\n<(h.length:Int))) then (bif (decide (c<(l.length:Int))) then (bif ((decide ((0:Int)<=c))&&(decide (c<(l.length:Int)))) then ((dL (ix l c).Task b).bind λd=>(bif (decide (0<=d/\d<(b.length:Int))) then (bif ((decide ((0:Int)<=(ix b d).pc))&&(decide ((ix b d).pc<(a.length:Int)))) then (bif (ix l c).Panic then ((dH (ix l c).Task p f).bind λm=>(Option.map Sum.inr (some (2,m,g,b,h)))) else (bif ((ix a (ix b d).pc).Op==14) then ((dL (ix l c).Task b).bind λi=>(bif (decide (0<=i/\i<(b.length:Int))) then (bif ((decide ((0:Int)<=(ix a (ix b d).pc).B))&&(decide ((ix a (ix b d).pc).B<((8:Nat):Int)))) then ((dq (ix l c).Task (ix a (ix b d).pc).Op p ((ix b i).r.get (ix a (ix b d).pc).B) f).bind λk=>(g9 n l c h g b k)) else none) else none)) else ((gB (ix l c).Task (ix a (ix b d).pc) (ix l c).Value (ix l c).Ok f b).bind λj=>(g9 n l c h g j.2 j.1)))) else none) else none)) else none) else (Option.map Sum.inr (some (e,f,g,b,h)))) else none)
def dF (c p:Int) (l:List de) (b:List dg) (a:Int) (e:List cz) (f:List cq) (d:List bV) (g:List Int):Option (Int×List cz×List Int×List cq×List bV):=(bif (decide (0<=c/\c<(d.length:Int))) then (dG (eY c p l b a) (0,f,d,e,g)) else none)
def lc (x:cI) (b:Bool) (a:List Int) (c:List cI) (d:List de):Option (Bool×Bool×Int×Int×List de×List Int×List cI):=(bif (decide ((0:Int)<(a.length:Int))) then (bif (decide ((0:Int)<(a.length:Int))) then (bif (decide ((1:Int)<=(a.length:Int))) then (some (true,true,(ix a (0:Int)),x.Case,d,(cut a (1:Int) (a.length:Int)),c)) else none) else none) else (bif b then (some (true,false,0,x.Case,[],a,c)) else (some (false,false,0,0,[],a,c))))
def sf (x:cI) (a:Bool) (c:List Int) (b:List cI):Option (Bool×Bool×Int×Int×List de×List Int×List cI):=(bif (decide ((0:Int)<(b.length:Int))) then (bif (decide ((0:Int)<(b.length:Int))) then (bif (decide ((1:Int)<=(b.length:Int))) then (bif (decide ((c++([(ix b (0:Int)).Value]:List Int)).length*8<=140737488355328)) then (lc x a (c++([(ix b (0:Int)).Value]:List Int)) (cut b (1:Int) (b.length:Int)) ([(de.mk (ix b (0:Int)).Task (ix b (0:Int)).Case 0 false false)]:List de)) else none) else none) else none) else (lc x a c b []))
def pf (p:cR) (c d:Bool) (a b:Int) (e:List Int) (h f:List cI) (g:List de):Option (Int×Bool×Bool×Bool×Int×Int×cD×List Int×List cI×List cI×List de):=(some (p.Cap,p.Closed,c,d,a,b,(cD.mk 0 0),e,h,f,g))
def lQ (p:cR) (c:Int) (e:Bool):Option (Int×Bool×Bool×Bool×Int×Int×cD×List Int×List cI×List cI×List de):=((oO p c).bind λd=>(bif (d.Code != 0) then (some (0,false,false,false,0,0,d,[],[],[],[])) else ((ot p).bind λb=>((sf (cI.mk c 0 0) p.Closed b.1 b.2.1).bind λa=>(bif ((!a.1)&&(!e)) then (bif (decide ((b.2.2++([(cI.mk c 0 0)]:List cI)).length*24<=140737488355328)) then (pf p a.1 a.2.1 a.2.2.1 a.2.2.2.1 a.2.2.2.2.2.1 a.2.2.2.2.2.2 (b.2.2++([(cI.mk c 0 0)]:List cI)) a.2.2.2.2.1) else none) else (pf p a.1 a.2.1 a.2.2.1 a.2.2.2.1 a.2.2.2.2.2.1 a.2.2.2.2.2.2 b.2.2 a.2.2.2.2.1))))))
def mY (c:List cI):Int×(List de)->Option (((Int×List de) ⊕ (Bool×List de×Bool×List cI×List cI))):=λ(a,b)=>(bif (decide (a<(c.length:Int))) then (bif ((decide ((0:Int)<=a))&&(decide (a<(c.length:Int)))) then (bif (decide ((b++([(de.mk (ix c a).Task (ix c a).Case 0 false true)]:List de)).length*32<=140737488355328)) then (some (Sum.inl ((i64.wrap (a+1)),(b++([(de.mk (ix c a).Task (ix c a).Case 0 false true)]:List de))))) else none) else none) else (Option.map Sum.inr (some (false,b,true,[],[]))))
def mZ (d c:List cI):Int×(List de)->Option (((Int×List de) ⊕ (Bool×List de×Bool×List cI×List cI))):=λ(a,b)=>(bif (decide (a<(c.length:Int))) then (bif ((decide ((0:Int)<=a))&&(decide (a<(c.length:Int)))) then (bif (decide ((b++([(de.mk (ix c a).Task (ix c a).Case 0 false false)]:List de)).length*32<=140737488355328)) then (some (Sum.inl ((i64.wrap (a+1)),(b++([(de.mk (ix c a).Task (ix c a).Case 0 false false)]:List de))))) else none) else none) else (Option.map Sum.inr (dG (mY d) (0,b))))
def ra (a:Bool) (c b:List cI):Option (Bool×List de×Bool×List cI×List cI):=(bif a then (some (true,[],a,c,b)) else (dG (mZ c b) (0,[])))
def ov (p:cR):Option (Int×Bool×Bool×Bool×cD×List Int×List cI×List cI×List de):=((oN p).bind λc=>(bif (c.Code != 0) then (some (0,false,false,false,c,[],[],[],[])) else ((ot p).bind λb=>((ra p.Closed b.2.1 b.2.2).bind λa=>(some (p.Cap,a.2.2.1,true,a.1,(cD.mk 0 0),b.1,a.2.2.2.1,a.2.2.2.2,a.2.1))))))
def d5 (a:Int) (b:List cz) (c:List Int) (e:List cq) (d:List bV) (f:List cR):Option (Bool×Int×List cz×List Int×List cq×List bV×List cR):=(some (true,a,b,c,e,d,f))
def eZ (k t:Int) (i:dg) (c:List dg) (m:List cR) (a:Int) (l:List cq) (f:List bV) (h:List cR) (e:lg) (j:List cz) (g:List Int):Option (Bool×Int×List cz×List Int×List cq×List bV×List cR):=(bif (decide (0<=k/\k<(f.length:Int))) then ((gB t i e.Value e.Ok j l).bind λd=>(bif (decide ((0:Int)<(((ix m i.B).Items.length:Nat):Int))) then ((dF k i.B e.Wakes c a d.1 d.2 f g).bind λb=>(bif (decide (0<=k/\k<(b.2.2.2.2.length:Int))) then (d5 b.1 b.2.1 b.2.2.1 b.2.2.2.1 b.2.2.2.2 h) else none)) else (d5 a d.1 g d.2 f h))) else none)
def eC (n t:Int) (c:dg) (d:List dg) (b:Int) (q:List cz) (m:List cq) (p:List bV) (s:List Int) (k:List cR):Option (Bool×Int×List cz×List Int×List cq×List bV×List cR):=(bif (decide (0<=n/\n<(p.length:Int))) then ((dL t m).bind λi=>(bif (decide (0<=i/\i<(m.length:Int))) then (bif (c.Op==14) then (bif ((decide ((0:Int)<=c.A))&&(decide (c.A<(k.length:Int)))) then (bif ((decide ((0:Int)<=c.B))&&(decide (c.B<((8:Nat):Int)))) then ((my (ix k c.A) t ((ix m i).r.get c.B) false).bind λe=>(bif ((decide ((0:Int)<=c.A))&&(decide (c.A<(k.length:Int)))) then ((λz1:List cR=>(bif e.2.2.2.1 then ((dH t c.A q).bind λu=>(some (false,2,u,s,m,p,z1))) else (bif (!e.2.2.1) then ((fY t m).bind λl=>(bif (decide (0<=i/\i<(l.2.length:Int))) then (some (l.1,b,q,s,l.2,p,z1)) else none)) else ((dq t c.Op c.A ((ix m i).r.get c.B) q).bind λw=>((dF n c.A e.2.2.2.2.2.2.2.2.2 d b w m p s).bind λh=>(bif (decide (0<=n/\n<(h.2.2.2.2.length:Int))) then (d5 h.1 h.2.1 h.2.2.1 h.2.2.2.1 h.2.2.2.2 z1) else none)))))) (k.set c.A.toNat ((cR.mk e.1 e.2.2.2.2.2.2.1 e.2.1 e.2.2.2.2.2.2.2.1 e.2.2.2.2.2.2.2.2.1):cR))) else none)) else none) else none) else (bif (c.Op==15) then (bif ((decide ((0:Int)<=c.B))&&(decide (c.B<(k.length:Int)))) then (bif ((decide ((0:Int)<=c.B))&&(decide (c.B<(k.length:Int)))) then ((lQ (ix k c.B) t false).bind λa=>(bif ((decide ((0:Int)<=c.B))&&(decide (c.B<(k.length:Int)))) then ((λz0:List cR=>(bif (!a.2.2.1) then ((fY t m).bind λo=>(some (o.1,b,q,s,o.2,p,z0))) else (bif (!(decide ((0:Int)<(((ix k c.B).Items.length:Nat):Int)))) then ((dF n c.B a.2.2.2.2.2.2.2.2.2.2 d b q m p s).bind λg=>(bif (decide (0<=n/\n<(g.2.2.2.2.length:Int))) then (eZ n t c d k g.1 g.2.2.2.1 g.2.2.2.2 z0 (lg.mk a.2.2.1 false a.2.2.2.1 a.2.2.2.2.1 a.2.2.2.2.2.1 a.2.2.2.2.2.2.2.2.2.2) g.2.1 g.2.2.1) else none)) else (eZ n t c d k b m p z0 (lg.mk a.2.2.1 false a.2.2.2.1 a.2.2.2.2.1 a.2.2.2.2.2.1 a.2.2.2.2.2.2.2.2.2.2) q s)))) (k.set c.B.toNat ((cR.mk a.1 a.2.2.2.2.2.2.2.1 a.2.1 a.2.2.2.2.2.2.2.2.1 a.2.2.2.2.2.2.2.2.2.1):cR))) else none)) else none) else none) else (bif (c.Op==16) then (bif ((decide ((0:Int)<=c.A))&&(decide (c.A<(k.length:Int)))) then ((ov (ix k c.A)).bind λf=>(bif ((decide ((0:Int)<=c.A))&&(decide (c.A<(k.length:Int)))) then ((λz2:List cR=>(bif f.2.2.2.1 then ((dH t c.A q).bind λv=>(some (false,2,v,s,m,p,z2))) else ((dq t c.Op c.A 0 q).bind λx=>((dF n c.A f.2.2.2.2.2.2.2.2 d b x m p s).bind λj=>(bif (decide (0<=n/\n<(j.2.2.2.2.length:Int))) then (d5 j.1 j.2.1 j.2.2.1 j.2.2.2.1 j.2.2.2.2 z2) else none))))) (k.set c.A.toNat ((cR.mk f.1 f.2.2.2.2.2.1 f.2.1 f.2.2.2.2.2.2.1 f.2.2.2.2.2.2.2.1):cR))) else none)) else none) else (d5 b q s m p k)))) else none)) else none)
def jS (a b:Int):Option (cD):=(some ((cD.mk a b)))
def nI (l:di):Int×(List (Int×Int))->Option (((Int×(List (Int×Int))) ⊕ (cD))):=λ(a,b)=>(bif (decide (a<(l.Line.length:Int))) then (bif ((decide ((0:Int)<=a))&&(decide (a<(l.Line.length:Int)))) then (bif (decide ((ix l.Line a).Task<1)) then ((jS 3 (i64.wrap (a+1))).bind λe=>(Option.map Sum.inr (some (e)))) else (bif (decide ((0:Int)<(fU b (ix l.Line a).Task))) then ((jS 10 (i64.wrap (a+1))).bind λd=>(Option.map Sum.inr (some (d)))) else (bif ((ix l.Line a).N != 0) then ((jS 5 (i64.wrap (a+1))).bind λc=>(Option.map Sum.inr (some (c)))) else (some (Sum.inl ((i64.wrap (a+1)),(iu b (ix l.Line a).Task 1))))))) else none) else (Option.map Sum.inr (some ((cD.mk 0 0)))))
def oP (l:di):Option (cD):=(bif (decide ((5000:Int)<(l.Line.length:Int))) then ((jS 2 0).bind λa=>(some (a))) else (bif ((decide (l.Readers<0))||(decide ((1000000000:Int)<l.Readers))) then ((jS 3 0).bind λc=>(some (c))) else (bif ((!((((l.Writer&&(!(decide ((0:Int)<l.Readers))))&&(decide ((0:Int)<(l.Line.length:Int))))&&(!l.Writer))&&(!(l.Readers==0))))||(decide ((0:Int)<(l.Line.length:Int)))) then (bif ((!((((!l.Writer)&&(decide ((0:Int)<(l.Line.length:Int))))&&(!l.Writer))&&(!(l.Readers==0))))||(decide ((0:Int)<(l.Line.length:Int)))) then (bif (bif l.Writer then ((decide ((0:Int)<l.Readers))||((decide ((0:Int)<(l.Line.length:Int)))&&((!l.Writer)&&((l.Readers==0)||(!(ix l.Line (0:Int)).Write))))) else ((decide ((0:Int)<(l.Line.length:Int)))&&((!l.Writer)&&((l.Readers==0)||(!(ix l.Line (0:Int)).Write))))) then ((jS 5 0).bind λb=>(some (b))) else (dG (nI l) (0,[]))) else none) else none)))
def ql (w:dR) (a:Int):Option (Bool):=(some ((w.Task==a)))
def iB (s:List dR) (f:Int):Int->Option (((Int) ⊕ (Int))):=λa=>(bif (decide (a<(s.length:Int))) then (bif ((decide ((0:Int)<=a))&&(decide (a<(s.length:Int)))) then ((ql (ix s a) f).bind λb=>(bif b then (Option.map Sum.inr (some (a))) else (some (Sum.inl ((i64.wrap (a+1))))))) else none) else (Option.map Sum.inr (some ((-1)))))
def kS (s:List dR) (f:Int):Option (Int):=(dG (iB s f) (0))
def iC (s:List dR) (f:Int):Option (Bool):=((kS s f).bind λa=>(some ((decide ((0:Int)<=a)))))
def mR (s:List dR):Option ((List dR)):=(bif (decide ((([]:List dR)++s).length*24<=140737488355328)) then (some ((([]:List dR)++s))) else none)
def lB (l:di):Option ((List dR)):=((mR l.Line).bind λa=>(some (a)))
def nY (d:List Int) (a:Int) (b:Bool) (c:List dR):Option ((List Int)×Int×Bool×List dR):=(some (d,a,b,c))
def jT:Int×Bool×List Int×(List dR)->Option (((Int×Bool×List Int×List dR) ⊕ ((List Int)×Int×Bool×List dR))):=λ(b,c,d,a)=>(bif ((decide ((0:Int)<(a.length:Int)))&&(!c)) then (bif (decide ((0:Int)<(a.length:Int))) then (bif ((ix a (0:Int)).Write&&(decide ((0:Int)<b))) then (Option.map Sum.inr (nY d b c a)) else (bif (decide ((1:Int)<=(a.length:Int))) then (bif (decide ((d++([(ix a (0:Int)).Task]:List Int)).length*8<=140737488355328)) then (bif (!(ix a (0:Int)).Write) then (some (Sum.inl ((i64.wrap (b+1)),(ix a (0:Int)).Write,(d++([(ix a (0:Int)).Task]:List Int)),(cut a (1:Int) (a.length:Int))))) else (some (Sum.inl (b,(ix a (0:Int)).Write,(d++([(ix a (0:Int)).Task]:List Int)),(cut a (1:Int) (a.length:Int)))))) else none) else none)) else none) else (Option.map Sum.inr (nY d b c a)))
def kK (a:Int) (b:Bool) (c:List dR):Option ((List Int)×Int×Bool×List dR):=(dG jT (a,b,[],c))
def mz (l:di) (b:Int) (c m:Bool):Option (Int×Bool×Bool×cD×List dR):=((oP l).bind λe=>(bif (e.Code != 0) then (some (0,false,false,e,[])) else (bif (decide (b<1)) then ((jS 3 (-1)).bind λj=>(some (0,false,false,j,[]))) else ((iC l.Line b).bind λf=>(bif f then ((jS 10 (-1)).bind λg=>(some (0,false,false,g,[]))) else (bif (((l.Line.length:Int)==5000)||(l.Readers==1000000000)) then ((jS 9 0).bind λh=>(some (0,false,false,h,[]))) else ((lB l).bind λd=>(bif (decide ((d++([(dR.mk b c 0)]:List dR)).length*24<=140737488355328)) then ((kK l.Readers l.Writer (d++([(dR.mk b c 0)]:List dR))).bind λa=>((h_ a.1 b).bind λi=>(bif i then (some (a.2.1,a.2.2.1,true,(cD.mk 0 0),a.2.2.2)) else (bif m then ((lB l).bind λk=>(some (l.Readers,l.Writer,false,(cD.mk 0 0),k))) else (some (a.2.1,a.2.2.1,false,(cD.mk 0 0),a.2.2.2)))))) else none))))))))
def nJ (a:Int) (c:Bool) (d:List dR):Option (Int×Bool×Bool×cD×List dR×List Int):=((kK a c d).bind λb=>(some (b.2.1,b.2.2.1,false,(cD.mk 0 0),b.2.2.2,b.1)))
def nv (l:di) (a:Bool):Option (Int×Bool×Bool×cD×List dR×List Int):=((oP l).bind λb=>(bif (b.Code != 0) then (some (0,false,false,b,[],[])) else (bif (bif a then ((!l.Writer)||((!a)&&(l.Readers==0))) else ((!a)&&(l.Readers==0))) then ((lB l).bind λd=>(some (l.Readers,l.Writer,true,(cD.mk 0 0),d,[]))) else ((lB l).bind λc=>(bif a then (nJ l.Readers false c) else (nJ (i64.wrap (l.Readers-1)) l.Writer c))))))
def ji (a b:Int):Option (cD):=(some ((cD.mk a b)))
def qm (l:List Int):Int×(List (Int×Int))->Option (((Int×(List (Int×Int))) ⊕ (cD))):=λ(a,b)=>(bif (decide (a<(l.length:Int))) then (bif ((decide ((0:Int)<=a))&&(decide (a<(l.length:Int)))) then (bif (decide ((ix l a)<1)) then ((ji 3 (i64.wrap (a+1))).bind λd=>(Option.map Sum.inr (some (d)))) else (bif (decide ((0:Int)<(fU b (ix l a)))) then ((ji 10 (i64.wrap (a+1))).bind λc=>(Option.map Sum.inr (some (c)))) else (some (Sum.inl ((i64.wrap (a+1)),(iu b (ix l a) 1)))))) else none) else (Option.map Sum.inr (some ((cD.mk 0 0)))))
def rH (l:List Int):Option (cD):=(bif (decide ((5000:Int)<(l.length:Int))) then ((ji 2 0).bind λa=>(some (a))) else (dG (qm l) (0,[])))
def oQ (g:cX):Option (cD):=((rH g.Line).bind λa=>(bif (a.Code != 0) then (some (a)) else (bif ((decide (g.Count<0))||(decide ((1000000000:Int)<g.Count))) then ((ji 3 0).bind λc=>(some (c))) else (bif ((g.Count==0)&&(decide ((0:Int)<(g.Line.length:Int)))) then ((ji 5 0).bind λb=>(some (b))) else (some ((cD.mk 0 0)))))))
def nw (g:cX) (n:Int):Option (Int×Bool×cD×List Int×List Int):=((oQ g).bind λb=>(bif (b.Code != 0) then (some (0,false,b,[],[])) else (bif ((decide (n<(-1000000000)))||(decide ((1000000000:Int)<n))) then ((ji 3 (-1)).bind λc=>(some (0,false,c,[],[]))) else ((fd g.Line).bind λa=>(bif (decide ((i64.wrap (g.Count+n))<0)) then (some (g.Count,true,(cD.mk 0 0),a,[])) else (bif (decide ((1000000000:Int)<(i64.wrap (g.Count+n)))) then ((ji 9 0).bind λd=>(some (0,false,d,[],[]))) else (bif ((i64.wrap (g.Count+n))==0) then (some (0,false,(cD.mk 0 0),[],a)) else (some ((i64.wrap (g.Count+n)),false,(cD.mk 0 0),a,[])))))))))
def qn (l:List Int) (a:Int):Option (cD):=(bif (decide (a<1)) then ((ji 3 (-1)).bind λc=>(some (c))) else ((h_ l a).bind λd=>(bif d then ((ji 10 (-1)).bind λb=>(some (b))) else (bif ((l.length:Int)==5000) then ((ji 9 0).bind λe=>(some (e))) else (some ((cD.mk 0 0)))))))
def me (g:cX) (a:List Int):Option (Int×Bool×cD×List Int):=(some (g.Count,(g.Count==0),(cD.mk 0 0),a))
def nK (g:cX) (b:Int) (c:cD):Option (Int×Bool×cD×List Int):=(bif (c.Code != 0) then (some (0,false,c,[])) else ((fd g.Line).bind λa=>(bif (decide ((0:Int)<g.Count)) then (bif (decide ((a++([b]:List Int)).length*8<=140737488355328)) then (me g (a++([b]:List Int))) else none) else (me g a))))
def ny (g:cX) (a:Int):Option (Int×Bool×cD×List Int):=((oQ g).bind λb=>(bif (b.Code==0) then ((qn g.Line a).bind λc=>(nK g a c)) else (nK g a b)))
def fp (a:Int) (g:List cz) (c:List Int) (e:List cq) (f:List bV) (d:List di) (b:List cX):Option (Bool×Int×List cz×List Int×List cq×List bV×List di×List cX):=(some (true,a,g,c,e,f,d,b))
def g_ (n:Int) (p:dg) (a:List dg) (e:Int) (o:List cX):Int×Int×List cq×List bV×List di×List Int×List cz×(List Int)->Option (((Int×Int×List cq×List bV×List di×List Int×List cz×List Int) ⊕ (Bool×Int×List cz×List Int×List cq×List bV×List di×List cX))):=λ(h,b,c,i,k,d,j,l)=>(bif (decide (0<=n/\n<(i.length:Int))) then (bif (decide (b<h)) then (bif ((decide ((0:Int)<=b))&&(decide (b<(d.length:Int)))) then ((dL (ix d b) c).bind λf=>(bif (decide (0<=f/\f<(c.length:Int))) then (bif ((decide ((0:Int)<=(ix c f).pc))&&(decide ((ix c f).pc<(a.length:Int)))) then ((dq (ix d b) 17 p.A (ix a (ix c f).pc).B j).bind λm=>((fV n (ix d b) c i l).bind λg=>(bif (decide (0<=n/\n<(g.2.2.length:Int))) then (some (Sum.inl (h,(i64.wrap (b+1)),g.2.1,g.2.2,k,d,m,g.1))) else none))) else none) else none)) else none) else (Option.map Sum.inr (fp e j l c i k o))) else none)
def hJ (l:Int) (m:dg) (b:Int) (n:List di):Int×Int×List cq×List bV×List cX×List Int×List cz×(List Int)->Option (((Int×Int×List cq×List bV×List cX×List Int×List cz×List Int) ⊕ (Bool×Int×List cz×List Int×List cq×List bV×List di×List cX))):=λ(e,a,j,f,g,c,h,i)=>(bif (decide (0<=l/\l<(f.length:Int))) then (bif (decide (a<e)) then (bif ((decide ((0:Int)<=a))&&(decide (a<(c.length:Int)))) then ((dq (ix c a) 20 m.A 0 h).bind λk=>((fV l (ix c a) j f i).bind λd=>(bif (decide (0<=l/\l<(d.2.2.length:Int))) then (some (Sum.inl (e,(i64.wrap (a+1)),d.2.1,d.2.2,g,c,k,d.1))) else none))) else none) else (Option.map Sum.inr (fp b h i j f n g))) else none)
def eU (y t:Int) (b:dg) (g:List dg) (a:Int) (o:List cz) (k:List cq) (n:List bV) (p:List Int) (e:List di) (f:List cX):Option (Bool×Int×List cz×List Int×List cq×List bV×List di×List cX):=(bif (decide (0<=y/\y<(n.length:Int))) then ((dL t k).bind λj=>(bif (decide (0<=j/\j<(k.length:Int))) then (bif (b.Op==17) then (bif ((decide ((0:Int)<=b.A))&&(decide (b.A<(e.length:Int)))) then ((mz (ix e b.A) t (b.B==1) false).bind λd=>(bif ((decide ((0:Int)<=b.A))&&(decide (b.A<(e.length:Int)))) then ((λz1:List di=>(bif (!d.2.2.1) then ((fY t k).bind λm=>(some (m.1,a,o,p,m.2,n,z1,f))) else ((dq t b.Op b.A b.B o).bind λq=>(fp a q p k n z1 f)))) (e.set b.A.toNat ((di.mk d.1 d.2.1 d.2.2.2.2):di))) else none)) else none) else (bif (b.Op==18) then (bif ((decide ((0:Int)<=b.A))&&(decide (b.A<(e.length:Int)))) then ((nv (ix e b.A) (b.B==1)).bind λc=>(bif ((decide ((0:Int)<=b.A))&&(decide (b.A<(e.length:Int)))) then ((λz0:List di=>(bif c.2.2.1 then ((dH t b.A o).bind λs=>(some (false,2,s,p,k,n,z0,f))) else ((dq t b.Op b.A b.B o).bind λx=>(dG (g_ y b g a f) ((c.2.2.2.2.2.length:Int),0,k,n,z0,c.2.2.2.2.2,x,p))))) (e.set b.A.toNat ((di.mk c.1 c.2.1 c.2.2.2.2.1):di))) else none)) else none) else (bif (b.Op==19) then (bif ((decide ((0:Int)<=b.A))&&(decide (b.A<(f.length:Int)))) then (bif ((decide ((0:Int)<=b.B))&&(decide (b.B<((8:Nat):Int)))) then ((nw (ix f b.A) ((ix k j).r.get b.B)).bind λh=>(bif (h.2.1||(h.2.2.1.Code != 0)) then ((dH t b.A o).bind λu=>(some (false,2,u,p,k,n,e,f))) else (bif ((decide ((0:Int)<=b.A))&&(decide (b.A<(f.length:Int)))) then ((dq t b.Op b.A ((ix k j).r.get b.B) o).bind λw=>(dG (hJ y b a e) ((h.2.2.2.2.length:Int),0,k,n,(f.set b.A.toNat ((cX.mk h.1 h.2.2.2.1):cX)),h.2.2.2.2,w,p))) else none))) else none) else none) else (bif (b.Op==20) then (bif ((decide ((0:Int)<=b.A))&&(decide (b.A<(f.length:Int)))) then ((ny (ix f b.A) t).bind λi=>(bif ((decide ((0:Int)<=b.A))&&(decide (b.A<(f.length:Int)))) then (bif (!i.2.1) then ((fY t k).bind λl=>(some (l.1,a,o,p,l.2,n,e,(f.set b.A.toNat ((cX.mk i.1 i.2.2.2):cX))))) else ((dq t b.Op b.A 0 o).bind λv=>(fp a v p k n e (f.set b.A.toNat ((cX.mk i.1 i.2.2.2):cX))))) else none)) else none) else (fp a o p k n e f))))) else none)) else none)
def eR (a b:Int) (j:List cR) (h:List di) (i:List cX) (c:List cz) (d:List cq) (e f:List Int) (g:List bV):Option (Bool×Int×Int×List cz×List cq×List Int×List Int×List bV×List cR×List di×List cX):=(some (true,a,b,c,d,e,f,g,j,h,i))
def ju (b:Int) (h:List Int) (j:List bV) (i:List Int) (g:List cR) (f:List di) (e:List cX) (a:Int) (c:List cz) (d:List cq):Option (Bool×Int×Int×List cz×List cq×List Int×List Int×List bV×List cR×List di×List cX):=(some (false,a,b,c,d,i,h,j,g,f,e))
def ep (m t:Int) (i:dg) (g:List dg) (d c e:Int) (q:List cz) (u:List Int) (b:List cq) (p:List bV) (v:List Int) (s:List cR) (j:List di) (k:List cX) (a:Int) (l:Bool):Option (Bool×Int×Int×List cz×List cq×List Int×List Int×List bV×List cR×List di×List cX):=(bif (decide (0<=m/\m<(p.length:Int))) then (bif (decide (0<=a/\a<(b.length:Int))) then (bif l then ((eU m t i g d q b p v j k).bind λf=>(bif (decide (0<=m/\m<(f.2.2.2.2.2.1.length:Int))) then (bif (decide (0<=a/\a<(f.2.2.2.2.1.length:Int))) then (some (f.1,f.2.1,e,f.2.2.1,f.2.2.2.2.1,f.2.2.2.1,u,f.2.2.2.2.2.1,s,f.2.2.2.2.2.2.1,f.2.2.2.2.2.2.2)) else none) else none)) else (bif (i.Op==21) then (bif ((decide ((0:Int)<=i.A))&&(decide (i.A<((8:Nat):Int)))) then (bif (decide ((1000000000:Int)<((ix b a).r.get i.A))) then ((dH t 0 q).bind λo=>(some (false,2,e,o,b,v,u,p,s,j,k))) else (bif (decide (((ix b a).r.get i.A)<1)) then ((iY m t b p v).bind λh=>(bif (decide (0<=m/\m<(h.2.2.2.length:Int))) then (bif (decide (0<=a/\a<(h.2.2.1.length:Int))) then (some (h.1,d,e,q,h.2.2.1,h.2.1,u,h.2.2.2,s,j,k)) else none) else none)) else ((λz0:List cq=>((λz1:List cq=>((λz2:List cq=>(some (false,d,(i64.wrap (e+1)),q,(z2.set a.toNat ((cq.mk (ix z2 a).pc (ix z2 a).r (ix z2 a).state (ix z2 a).when (i64.wrap (e+1))):cq)),v,u,p,s,j,k))) (z1.set a.toNat ((cq.mk (ix z1 a).pc (ix z1 a).r (ix z1 a).state (i64.wrap (c+((ix b a).r.get i.A))) (ix z1 a).seq):cq)))) (z0.set a.toNat ((cq.mk (ix z0 a).pc (ix z0 a).r 2 (ix z0 a).when (ix z0 a).seq):cq)))) (b.set a.toNat ((cq.mk (i64.wrap ((ix b a).pc+1)) (ix b a).r (ix b a).state (ix b a).when (ix b a).seq):cq))))) else none) else (bif (i.Op==22) then ((dH t 0 q).bind λn=>(some (false,2,e,n,b,v,u,p,s,j,k))) else (eR d e s j k q b v u p)))) else none) else none)
def fC (j t:Int) (f:dg) (b:List dg) (a c d:Int) (o:List cz) (p:List Int) (l:List cq) (m:List bV) (q:List Int) (n:List cR) (i:List di) (h:List cX) (g:Int) (k:Bool):Option (Bool×Int×Int×List cz×List cq×List Int×List Int×List bV×List cR×List di×List cX):=(bif (decide (0<=j/\j<(m.length:Int))) then (bif (decide (0<=g/\g<(l.length:Int))) then (bif k then ((eC j t f b a o l m q n).bind λe=>(bif (decide (0<=j/\j<(e.2.2.2.2.2.1.length:Int))) then (bif (decide (0<=g/\g<(e.2.2.2.2.1.length:Int))) then (some (e.1,e.2.1,d,e.2.2.1,e.2.2.2.2.1,e.2.2.2.1,p,e.2.2.2.2.2.1,e.2.2.2.2.2.2,i,h)) else none) else none)) else (bif (f.Op==17) then (ep j t f b a c d o p l m q n i h g (f.Op==17)) else (bif (f.Op==18) then (ep j t f b a c d o p l m q n i h g (f.Op==18)) else (bif (f.Op==19) then (ep j t f b a c d o p l m q n i h g (f.Op==19)) else (ep j t f b a c d o p l m q n i h g (f.Op==20)))))) else none) else none)
def dC (o t:Int) (c:dg) (e:List dg) (b f d:Int) (s:List cz) (l:List Int) (g:List cq) (m:List bV) (q:List Int) (p:List cR) (i:List di) (j:List cX):Option (Bool×Int×Int×List cz×List cq×List Int×List Int×List bV×List cR×List di×List cX):=(bif (decide (0<=o/\o<(m.length:Int))) then ((dL t g).bind λa=>(bif (decide (0<=a/\a<(g.length:Int))) then (bif (c.Op==8) then (bif ((decide ((0:Int)<=c.A))&&(decide (c.A<((8:Nat):Int)))) then ((dq t c.Op 0 ((ix g a).r.get c.A) s).bind λx=>(eR b d p i j x g q l m)) else none) else (bif (c.Op==9) then ((dq t c.Op 0 0 s).bind λn=>((λz1:List cq=>(bif (t==1) then (ju d l m q p i j 1 n z1) else (ju d l m q p i j b n z1))) (g.set a.toNat ((cq.mk (ix g a).pc (ix g a).r 3 (ix g a).when (ix g a).seq):cq)))) else (bif (c.Op==10) then ((iY o t g m q).bind λh=>(bif (decide (0<=o/\o<(h.2.2.2.length:Int))) then (bif (decide (0<=a/\a<(h.2.2.1.length:Int))) then (some (h.1,b,d,s,h.2.2.1,h.2.1,l,h.2.2.2,p,i,j)) else none) else none)) else (bif (c.Op==11) then (bif ((g.length:Int)==64) then (some (false,4,d,s,g,q,l,m,p,i,j)) else (bif ((decide ((0:Int)<=c.B))&&(decide (c.B<((8:Nat):Int)))) then (bif (decide ((g++[((cq.mk c.A ((default:(dn 8)).set (0:Int) ((ix g a).r.get c.B)) 0 0 0):cq)]).length*8<=140737488355328)) then ((dq t c.Op 0 (((g++[((cq.mk c.A ((default:(dn 8)).set (0:Int) ((ix g a).r.get c.B)) 0 0 0):cq)]).length:Nat):Int) s).bind λu=>((i0 o (((g++[((cq.mk c.A ((default:(dn 8)).set (0:Int) ((ix g a).r.get c.B)) 0 0 0):cq)]).length:Nat):Int) (g++[((cq.mk c.A ((default:(dn 8)).set (0:Int) ((ix g a).r.get c.B)) 0 0 0):cq)]) m q).bind λk=>(bif (decide (0<=o/\o<(k.2.2.length:Int))) then (eR b d p i j u k.2.1 k.1 l k.2.2) else none))) else none) else none)) else (bif (c.Op==12) then (bif ((decide ((0:Int)<=c.B))&&(decide (c.B<(l.length:Int)))) then (bif ((decide ((0:Int)<=c.A))&&(decide (c.A<((8:Nat):Int)))) then ((λz0:List cq=>((dq t c.Op c.B ((ix z0 a).r.get c.A) s).bind λv=>(eR b d p i j v z0 q l m))) (g.set a.toNat ((cq.mk (ix g a).pc ((ix g a).r.set c.A (ix l c.B)) (ix g a).state (ix g a).when (ix g a).seq):cq))) else none) else none) else (bif (c.Op==13) then (bif ((decide ((0:Int)<=c.B))&&(decide (c.B<((8:Nat):Int)))) then (bif ((decide ((0:Int)<=c.A))&&(decide (c.A<(l.length:Int)))) then ((dq t c.Op c.A ((ix g a).r.get c.B) s).bind λw=>(eR b d p i j w g q (l.set c.A.toNat ((ix g a).r.get c.B)) m)) else none) else none) else (bif (c.Op==14) then (fC o t c e b f d s l g m q p i j a (c.Op==14)) else (bif (c.Op==15) then (fC o t c e b f d s l g m q p i j a (c.Op==15)) else (fC o t c e b f d s l g m q p i j a (c.Op==16)))))))))) else none)) else none)
def ek (p:Int) (e:List dg) (q:List cz) (c f g:Int) (s:List Int) (l:List cq) (o:List cR) (n:List di) (m:List cX) (h:List bV) (j:List Int) (b:Int) (i:dg):Option (Int×Int×List cz×List cq×List Int×List Int×List bV×List cR×List di×List cX):=(bif (decide (0<=p/\p<(h.length:Int))) then (bif (decide (0<=b/\b<(l.length:Int))) then ((oM i.Op).bind λk=>(bif k then ((md i (ix l b).pc b l).bind λd=>(bif (decide (d.2.length=l.length)) then (bif (decide (0<=b/\b<(d.2.length:Int))) then (some (c,g,q,(d.2.set b.toNat ((cq.mk d.1 (ix d.2 b).r (ix d.2 b).state (ix d.2 b).when (ix d.2 b).seq):cq)),j,s,h,o,n,m)) else none) else none)) else ((dC p (ix h p).now i e c f g q s l h j o n m).bind λa=>(bif (decide (0<=p/\p<(a.2.2.2.2.2.2.2.1.length:Int))) then (bif (decide (0<=b/\b<(a.2.2.2.2.1.length:Int))) then (bif a.1 then (some (a.2.1,a.2.2.1,a.2.2.2.1,(a.2.2.2.2.1.set b.toNat ((cq.mk (i64.wrap ((ix a.2.2.2.2.1 b).pc+1)) (ix a.2.2.2.2.1 b).r (ix a.2.2.2.2.1 b).state (ix a.2.2.2.2.1 b).when (ix a.2.2.2.2.1 b).seq):cq)),a.2.2.2.2.2.1,a.2.2.2.2.2.2.1,a.2.2.2.2.2.2.2.1,a.2.2.2.2.2.2.2.2.1,a.2.2.2.2.2.2.2.2.2.1,a.2.2.2.2.2.2.2.2.2.2)) else (bif (((ix a.2.2.2.2.2.2.2.1 p).now==(ix h p).now)&&((ix a.2.2.2.2.1 b).state != 0)) then (some (a.2.1,a.2.2.1,a.2.2.2.1,a.2.2.2.2.1,a.2.2.2.2.2.1,a.2.2.2.2.2.2.1,(a.2.2.2.2.2.2.2.1.set p.toNat ((bV.mk 0 (ix a.2.2.2.2.2.2.2.1 p).Ring_Next (ix a.2.2.2.2.2.2.2.1 p).Ring_List):bV)),a.2.2.2.2.2.2.2.2.1,a.2.2.2.2.2.2.2.2.2.1,a.2.2.2.2.2.2.2.2.2.2)) else (some (a.2.1,a.2.2.1,a.2.2.2.1,a.2.2.2.2.1,a.2.2.2.2.2.1,a.2.2.2.2.2.2.1,a.2.2.2.2.2.2.2.1,a.2.2.2.2.2.2.2.2.1,a.2.2.2.2.2.2.2.2.2.1,a.2.2.2.2.2.2.2.2.2.2)))) else none) else none)))) else none) else none)
def f_ (p:Int) (a:List dg) (m:List cz) (b c e:Int) (n:List Int) (h:List cq) (l:List cR) (k:List di) (j:List cX) (i:Bool) (f:List bV) (g:List Int):Option (Int×Int×List cz×List cq×List Int×List Int×List bV×List cR×List di×List cX):=(bif (decide (0<=p/\p<(f.length:Int))) then (bif i then (some (b,e,m,h,g,n,f,l,k,j)) else ((dL (ix f p).now h).bind λd=>(bif (decide (0<=d/\d<(h.length:Int))) then (bif (decide ((ix h d).pc<(a.length:Int))) then (bif ((decide ((0:Int)<=(ix h d).pc))&&(decide ((ix h d).pc<(a.length:Int)))) then (ek p a m b c e n h l k j f g d (ix a (ix h d).pc)) else none) else (ek p a m b c e n h l k j f g d (dg.mk 9 0 0))) else none))) else none)
def gp (p:Int) (b:List dg) (g:Int) (h:List Int) (i f:Int) (n:List cz) (a j c:Int) (t:List Int) (d:Int) (r:List Int) (o:List cq) (m:List bV) (s:List Int) (q:List cR) (k:List di) (l:List cX):Option (Int×Int×List cz×List cq×List Int×List Int×List bV×List cR×List di×List cX):=(bif ((decide ((0:Int)<=p))&&(decide (p<(m.length:Int)))) then (bif ((ix m p).now==0) then ((gm p m s).bind λe=>(bif (decide (0<=p/\p<(e.2.2.length:Int))) then (f_ p b n a c d r o q k l (!e.1) e.2.2 e.2.1) else none)) else (f_ p b n a c d r o q k l false m s)) else none)
def iN (a:Int) (b:List cq):Option (Bool):=(bif (decide (0<=a/\a<(b.length:Int))) then (some ((((ix b a).state==0)||((ix b a).state==2)))) else none)
def gb (c:List cq):Int->Option (((Int) ⊕ (Int))):=λa=>(bif (decide (a<(c.length:Int))) then (bif ((decide ((0:Int)<=a))&&(decide (a<(c.length:Int)))) then ((iN a c).bind λb=>(bif b then (Option.map Sum.inr (some (a))) else (some (Sum.inl ((i64.wrap (a+1))))))) else none) else (Option.map Sum.inr (some ((-1)))))
def j_ (a:List cq):Option (Int):=(dG (gb a) (0))
def jj (b:List cq):Option (Bool):=((j_ b).bind λa=>(some ((decide ((0:Int)<=a)))))
def jv (b:List cq):Option (Bool):=((jj b).bind λa=>(some ((!a))))
def nL (b c d:Int) (g:List cz) (h:List Int) (e:List cq):Int×(List Int)->Option (((Int×List Int) ⊕ (Int×Int×Int×cD×List cz×List Int×List Int))):=λ(a,f)=>(bif (decide (a<(e.length:Int))) then (bif ((decide ((0:Int)<=a))&&(decide (a<(e.length:Int)))) then (bif (decide ((f++([(ix e a).state]:List Int)).length*8<=140737488355328)) then (some (Sum.inl ((i64.wrap (a+1)),(f++([(ix e a).state]:List Int))))) else none) else none) else (Option.map Sum.inr (some (b,c,d,(cD.mk 0 0),g,f,h))))
def mf (a b c:Int) (f:List cz) (d g:List Int) (e:List cq):Option (Int×Int×Int×cD×List cz×List Int×List Int):=(dG (nL a b c f g e) (0,d))
def mg (i a:Int) (h:List Int) (b c d:Int) (m:List cz) (j:List Int) (g:List cq) (n:List bV) (k:List Int) (l:List cR) (e:List di) (f:List cX):Option (((Int×Int×Int×Int×Int×List cz×List Int×List Int×List cq×List bV×List Int×List cR×List di×List cX) ⊕ (Int×Int×Int×cD×List cz×List Int×List Int))):=(some (Sum.inl ((i64.wrap (i+1)),b,(i64.wrap (a+1)),c,d,m,h,j,g,n,k,l,e,f)))
def mh (j a:Int) (g:List Int) (c b d:Int) (m:List cz) (h:List Int) (k:List cq) (i:List bV) (n:List Int) (l:List cR) (f:List di) (e:List cX) (o:Bool):Option (((Int×Int×Int×Int×Int×List cz×List Int×List Int×List cq×List bV×List Int×List cR×List di×List cX) ⊕ (Int×Int×Int×cD×List cz×List Int×List Int))):=(bif o then (mg j a g 3 b d m h k i n l f e) else (mg j a g c b d m h k i n l f e))
def mj (k b:Int) (h:List Int) (a c d:Int) (m:List cz) (i:List Int) (e:List cq) (j:List bV) (n:List Int) (l:List cR) (g:List di) (f:List cX):Option (((Int×Int×Int×Int×Int×List cz×List Int×List Int×List cq×List bV×List Int×List cR×List di×List cX) ⊕ (Int×Int×Int×cD×List cz×List Int×List Int))):=(bif (a==0) then ((jv e).bind λo=>(mh k b h a c d m i e j n l g f o)) else (mh k b h a c d m i e j n l g f false))
def iE (p:cy) (g:List Int):Int×Int×Int×Int×Int×List cz×List Int×List Int×List cq×List bV×List Int×List cR×List di×(List cX)->Option (((Int×Int×Int×Int×Int×List cz×List Int×List Int×List cq×List bV×List Int×List cR×List di×List cX) ⊕ (Int×Int×Int×cD×List cz×List Int×List Int))):=λ(e,a,b,c,f,k,h,i,j,o,r,q,m,n)=>(bif (decide (e<(g.length:Int))) then (bif ((decide ((0:Int)<=e))&&(decide (e<(g.length:Int)))) then (bif (a != 0) then (Option.map Sum.inr (mf a b c k h i j)) else (bif (decide ((ix g e)<0)) then ((jR c j r).bind λl=>(mj e b h a l.1 f k i l.2.2 o l.2.1 q m n)) else ((gp (ix g e) p.Code p.Cells p.Pipes p.Locks p.Groups k a (i64.wrap (b+1)) c h f i j o r q m n).bind λd=>(mj e b h d.1 c d.2.1 d.2.2.1 d.2.2.2.2.2.1 d.2.2.2.1 d.2.2.2.2.2.2.1 d.2.2.2.2.1 d.2.2.2.2.2.2.2.1 d.2.2.2.2.2.2.2.2.1 d.2.2.2.2.2.2.2.2.2)))) else none) else (Option.map Sum.inr (mf a b c k h i j)))
def nM (p:cy) (d:Int) (c:List Int):Int->Option (((Int) ⊕ (Int×Int×Int×cD×List cz×List Int×List Int))):=λb=>(bif (decide (b<(c.length:Int))) then (bif ((decide ((0:Int)<=b))&&(decide (b<(c.length:Int)))) then (bif ((decide ((ix c b)<(-1)))||(decide (d<=(ix c b)))) then ((pd 3 b).bind λe=>(Option.map Sum.inr (some (0,0,0,e,[],[],[])))) else (some (Sum.inl ((i64.wrap (b+1)))))) else none) else (Option.map Sum.inr ((lP p d).bind λa=>(dG (iE p c) (0,0,0,0,0,[],[],a.1,a.2.1,a.2.2.1,a.2.2.2.1,a.2.2.2.2.1,a.2.2.2.2.2.1,a.2.2.2.2.2.2)))))
def mA (p:cy) (a:Int) (b:List Int):Option (Int×Int×Int×cD×List cz×List Int×List Int):=((qh p).bind λc=>(bif (c.Code != 0) then (some (0,0,0,c,[],[],[])) else (bif ((decide (a<1))||(decide ((16:Int)<a))) then ((pd 3 (-1)).bind λe=>(some (0,0,0,e,[],[],[]))) else (bif (decide ((5000:Int)<(b.length:Int))) then ((pd 2 (-1)).bind λd=>(some (0,0,0,d,[],[],[]))) else (dG (nM p a b) (0))))))
def i8:Option (Bool):=((mA (cy.mk ([(dg.mk 15 0 0)]:List dg) 0 ([0]:List Int) 0 0) 1 ([0,0]:List Int)).bind λa=>(some (((a.2.2.2.1.Code==0)&&((a.1==3)&&((a.2.1==1)&&((a.2.2.2.2.1.length:Int)==0)))))))
def ka (p:cy):Option (Bool):=(some (((decide ((2000:Int)<(p.Code.length:Int)))||(decide ((2000:Int)<(p.Pipes.length:Int))))))
def gE (a b:Int):Option (cD):=(some ((cD.mk a b)))
def fe (x a:Int):Option (Bool):=(some (((decide ((0:Int)<=x))&&(decide (x<a)))))
def f7 (p:cy) (k x:Int):Option (Bool):=(bif (k==110) then (some (true)) else (bif (k==114) then (fe x 8) else (bif (k==99) then (fe x (p.Code.length:Int)) else (bif (k==109) then (fe x p.Cells) else (bif (k==112) then (fe x (p.Pipes.length:Int)) else (bif (k==108) then (fe x p.Locks) else (bif (k==103) then (fe x p.Groups) else (bif (k==107) then (fe x 2) else (fe x 1)))))))))
def fy (c:Int) (a:Bool):Option (((Int) ⊕ (cD))):=(bif a then ((gE 5 c).bind λb=>(Option.map Sum.inr (some (b)))) else (some (Sum.inl ((i64.wrap (c+1))))))
def dX (p:cy):Int->Option (((Int) ⊕ (cD))):=λa=>(bif (decide (a<(p.Code.length:Int))) then (bif ((decide ((0:Int)<=a))&&(decide (a<(p.Code.length:Int)))) then (bif ((decide ((ix p.Code a).Op<1))||(decide ((22:Int)<(ix p.Code a).Op))) then ((gE 4 a).bind λb=>(Option.map Sum.inr (some (b)))) else (bif ((decide ((0:Int)<=(ix p.Code a).Op))&&(decide ((ix p.Code a).Op<(fX.length:Int)))) then (bif (decide ((0:Int)<((((ix fX (ix p.Code a).Op)).size:Nat):Int))) then ((f7 p ((((ix fX (ix p.Code a).Op)).data.getD ((0:Int)).toNat 0).toNat:Int) (ix p.Code a).A).bind λc=>(bif (!c) then (fy a true) else (bif ((decide ((0:Int)<=(ix p.Code a).Op))&&(decide ((ix p.Code a).Op<(fX.length:Int)))) then (bif (decide ((1:Int)<((((ix fX (ix p.Code a).Op)).size:Nat):Int))) then ((f7 p ((((ix fX (ix p.Code a).Op)).data.getD ((1:Int)).toNat 0).toNat:Int) (ix p.Code a).B).bind λd=>(fy a (!d))) else none) else none))) else none) else none)) else none) else (Option.map Sum.inr (some ((cD.mk 0 0)))))
def fZ (p:cy):Int->Option (((Int) ⊕ (cD))):=λa=>(bif (decide (a<(p.Pipes.length:Int))) then (bif ((decide ((0:Int)<=a))&&(decide (a<(p.Pipes.length:Int)))) then (bif ((!(!(decide ((ix p.Pipes a)<0))))||((decide ((0:Int)<=a))&&(decide (a<(p.Pipes.length:Int))))) then (bif ((decide ((ix p.Pipes a)<0))||(decide ((100:Int)<(ix p.Pipes a)))) then ((gE 8 a).bind λb=>(Option.map Sum.inr (some (b)))) else (some (Sum.inl ((i64.wrap (a+1)))))) else none) else none) else (Option.map Sum.inr (dG (dX p) (0))))
def iD (p:cy):Option (cD):=(bif ((decide ((1000:Int)<(p.Code.length:Int)))||(decide ((20:Int)<(p.Pipes.length:Int)))) then ((gE 2 0).bind λa=>(some (a))) else (bif ((decide (p.Cells<0))||((decide ((20:Int)<p.Cells))||((decide (p.Locks<0))||((decide ((20:Int)<p.Locks))||((decide (p.Groups<0))||(decide ((20:Int)<p.Groups))))))) then ((gE 3 0).bind λb=>(some (b))) else (dG (fZ p) (0))))
def jU (b:Int) (a:cD):Option (((Int×cD) ⊕ (cD))):=(some (Sum.inl ((i64.wrap (b+1)),a)))
def jV (d:Int) (a:List Int):Int×cD->Option (((Int×cD) ⊕ (cD))):=λ(c,b)=>(bif ((decide (c<(a.length:Int)))&&(b.Code==0)) then (bif ((decide ((0:Int)<=c))&&(decide (c<(a.length:Int)))) then (bif ((!(!(decide ((ix a c)<(-1)))))||((decide ((0:Int)<=c))&&(decide (c<(a.length:Int))))) then (bif ((decide ((ix a c)<(-1)))||(decide (d<=(ix a c)))) then ((gE 3 c).bind λe=>(jU c e)) else (jU c b)) else none) else none) else (Option.map Sum.inr (some (b))))
def gI (b:Int) (a:List Int) (c:cD):Option (cD):=(dG (jV b a) (0,c))
def fT (b:Int) (a:List Int) (c:cD):Option (cD):=(bif ((c.Code==0)&&(decide ((5000:Int)<(a.length:Int)))) then ((gE 2 (-1)).bind λd=>(gI b a d)) else (gI b a c))
def jx (p:cy) (a:Int) (b:List Int):Option (cD):=((iD p).bind λc=>(bif ((c.Code==0)&&((decide (a<1))||(decide ((16:Int)<a)))) then ((gE 3 (-1)).bind λd=>(fT a b d)) else (fT a b c)))
def jy (p:cy) (c:Int) (b:List Int) (d:Bool):Option (Int×Int×Int×Bool×List cz×List Int×List Int):=(bif d then (some (0,0,0,false,[],[],[])) else ((mA p c b).bind λa=>(some (a.1,a.2.1,a.2.2.1,(a.2.2.2.1.Code==0),a.2.2.2.2.1,a.2.2.2.2.2.1,a.2.2.2.2.2.2))))
def ic (p:cy) (b:Int) (a:List Int):Option (Int×Int×Int×Bool×List cz×List Int×List Int):=((ka p).bind λc=>(bif c then (jy p b a true) else (bif (decide ((5000:Int)<(a.length:Int))) then (jy p b a true) else ((jx p b a).bind λd=>(jy p b a (d.Code != 0))))))
def fq (c:jQ) (b a:Int):Option (((Int) ⊕ (Bool))):=(bif (decide (a<=(ix c.Trace b).Obj)) then (Option.map Sum.inr (some (false))) else (some (Sum.inl ((i64.wrap (b+1))))))
def i_ (p:cy) (b:jQ) (c:Int) (a:Bool):Option (((Int) ⊕ (Bool))):=(bif a then (fq b c p.Groups) else (bif ((ix b.Trace c).Op==22) then (fq b c 21) else (fq b c 1)))
def ja (p:cy) (b:jQ) (c:Int) (a:Bool):Option (((Int) ⊕ (Bool))):=(bif a then (fq b c p.Locks) else (bif ((ix b.Trace c).Op==19) then (i_ p b c ((ix b.Trace c).Op==19)) else (i_ p b c ((ix b.Trace c).Op==20))))
def hM (p:cy) (b:jQ) (c:Int) (a:Bool):Option (((Int) ⊕ (Bool))):=(bif a then (fq b c (p.Pipes.length:Int)) else (bif ((ix b.Trace c).Op==17) then (ja p b c ((ix b.Trace c).Op==17)) else (ja p b c ((ix b.Trace c).Op==18))))
def jb (p:cy) (b:jQ) (c:Int) (a:Bool):Option (((Int) ⊕ (Bool))):=(bif a then (fq b c p.Cells) else (bif ((ix b.Trace c).Op==14) then (hM p b c ((ix b.Trace c).Op==14)) else (bif ((ix b.Trace c).Op==15) then (hM p b c ((ix b.Trace c).Op==15)) else (hM p b c ((ix b.Trace c).Op==16)))))
def hU (p:cy) (b:jQ):Int->Option (((Int) ⊕ (Bool))):=λa=>(bif (decide (a<(b.Trace.length:Int))) then (bif ((decide ((0:Int)<=a))&&(decide (a<(b.Trace.length:Int)))) then (bif ((decide ((ix b.Trace a).Op<8))||((decide ((22:Int)<(ix b.Trace a).Op))||((decide ((ix b.Trace a).Task<1))||((decide ((64:Int)<(ix b.Trace a).Task))||((decide ((ix b.Trace a).Obj<0))||(decide ((20:Int)<(ix b.Trace a).Obj))))))) then (Option.map Sum.inr (some (false))) else (bif ((ix b.Trace a).Op==12) then (jb p b a ((ix b.Trace a).Op==12)) else (jb p b a ((ix b.Trace a).Op==13)))) else none) else (Option.map Sum.inr (some (true))))
def kh (p:cy) (a:jQ):Option (Bool):=(dG (hU p a) (0))
def ie (g b a c:Int) (e:List cz) (f d:List Int):Option (((Int×Int×Int×Int×List cz×List Int×List Int) ⊕ (Bool))):=(some (Sum.inl ((i64.wrap (g+1)),b,a,c,e,f,d)))
def ig (p:cy):Int×Int×Int×Int×List cz×List Int×(List Int)->Option (((Int×Int×Int×Int×List cz×List Int×List Int) ⊕ (Bool))):=λ(d,c,b,e,a,g,f)=>(bif (decide (d<(a.length:Int))) then (bif ((decide ((0:Int)<=d))&&(decide (d<(a.length:Int)))) then (bif ((!(!((ix a d).Op != 14)))||((decide ((0:Int)<=(ix a d).Obj))&&(decide ((ix a d).Obj<(p.Pipes.length:Int))))) then (bif (((ix a d).Op != 14)||(decide ((0:Int)<(ix p.Pipes (ix a d).Obj)))) then (ie d c b e a g f) else (bif (decide ((a.length:Int)<=(i64.wrap (d+1)))) then (Option.map Sum.inr (some (false))) else (bif ((decide ((0:Int)<=(i64.wrap (d+1))))&&(decide ((i64.wrap (d+1))<(a.length:Int)))) then (bif (((ix a (i64.wrap (d+1))).Op != 15)||(((ix a (i64.wrap (d+1))).Obj != (ix a d).Obj)||(((ix a (i64.wrap (d+1))).Value != (ix a d).Value)||((ix a (i64.wrap (d+1))).Task==(ix a d).Task)))) then (Option.map Sum.inr (some (false))) else (ie d c b e a g f)) else none))) else none) else none) else (Option.map Sum.inr (some (true))))
def kB (p:cy) (e:Int) (b:List Int):Option (Bool):=(i8.bind λd=>(bif (!d) then (some (false)) else ((ic p e b).bind λa=>(bif (!a.2.2.2.1) then (some (true)) else ((kh p (jQ.mk a.2.2.2.2.1 a.1 a.2.1 a.2.2.1 a.2.2.2.2.2.1 a.2.2.2.2.2.2)).bind λc=>(bif (!c) then (some (false)) else (dG (ig p) (0,a.1,a.2.1,a.2.2.1,a.2.2.2.2.1,a.2.2.2.2.2.1,a.2.2.2.2.2.2))))))))
end
end Go.Proofs.YthcdpjkgdcpkmaaGreatDoor
