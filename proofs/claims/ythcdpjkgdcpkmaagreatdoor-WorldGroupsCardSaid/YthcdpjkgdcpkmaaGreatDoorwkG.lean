/-
 What laws of the chapter wk compute, and lemmas on it.
 No conditions.
-/
import Derived.Test.YthcdpjkgdcpkmaaGreatDoorwkA4
open Go.IntKind (i64)
set_option linter.unusedSimpArgs false
set_option linter.unusedVariables false
set_option linter.unusedSectionVars false
namespace Go.Proofs.YthcdpjkgdcpkmaaGreatDoor
noncomputable section
open Go Go.Sx
structure dg where
 Op:Int
 A:Int
 B:Int
 deriving Inhabited,DecidableEq
instance : bZ dg:=⟨3,λd=>[.v (.int .i64 d.Op),.v (.int .i64 d.A),.v (.int .i64 d.B)],λ_=>rfl,λ_=>rfl,λ_=>by simp only [ip,SV.st,kQ,db]⟩
@[push_cast] theorem Np (xs:List dg):iT (fl xs)=true:=m3 (λ_=>rfl) xs
@[push_cast] theorem w6:bZ.sz dg=3:=rfl
@[push_cast] theorem Ml (d:dg):bZ.cells d=[.v (.int .i64 d.Op),.v (.int .i64 d.A),.v (.int .i64 d.B)]:=rfl
@[push_cast] theorem MQ (xs:List dg) (x0:Int) (x1:Int) (x2:Int):fl xs++[.v (.int .i64 x0),.v (.int .i64 x1),.v (.int .i64 x2)]=fl (xs++[dg.mk x0 x1 x2]):=by rw [fF];rfl
@[push_cast] theorem Mm (xs:List dg) (i:Int):(fl xs).getD (i.toNat*3) (.v (.int .i64 0)) = .v (.int .i64 (ix xs i).Op):=by
 have:=fm xs i 0 (by decide) (.v (.int .i64 0):SV) rfl
 rw [w6,eD] at this
 exact this
@[push_cast] theorem MR (xs:List dg) (i:Int):(fl xs).getD (i.toNat*3+1) (.v (.int .i64 0)) = .v (.int .i64 (ix xs i).A):=by
 have:=fm xs i 1 (by decide) (.v (.int .i64 0):SV) rfl
 rw [w6] at this
 exact this
@[push_cast] theorem MS (xs:List dg) (i:Int):(fl xs).getD (i.toNat*3+2) (.v (.int .i64 0)) = .v (.int .i64 (ix xs i).B):=by
 have:=fm xs i 2 (by decide) (.v (.int .i64 0):SV) rfl
 rw [w6] at this
 exact this
structure cy where
 Code:(List dg)
 Cells:Int
 Pipes:(List Int)
 Locks:Int
 Groups:Int
 deriving Inhabited,DecidableEq
instance : bZ cy:=⟨5,λd=>[.sl d.Code.length (fl d.Code),.v (.int .i64 d.Cells),.sl d.Pipes.length (fl d.Pipes),.v (.int .i64 d.Locks),.v (.int .i64 d.Groups)],λ_=>rfl,λ_=>rfl,λ_=>by simp only [ip,SV.st,kQ,db]⟩
@[push_cast] theorem t8:bZ.sz cy=5:=rfl
@[push_cast] theorem Ax (d:cy):bZ.cells d=[.sl d.Code.length (fl d.Code),.v (.int .i64 d.Cells),.sl d.Pipes.length (fl d.Pipes),.v (.int .i64 d.Locks),.v (.int .i64 d.Groups)]:=rfl
@[push_cast] theorem Lo (xs:List cy) (x0:(List dg)) (x1:Int) (x2:(List Int)) (x3:Int) (x4:Int):fl xs++[.sl x0.length (fl x0),.v (.int .i64 x1),.sl x2.length (fl x2),.v (.int .i64 x3),.v (.int .i64 x4)]=fl (xs++[cy.mk x0 x1 x2 x3 x4]):=by rw [fF];rfl
@[push_cast] theorem Ia (xs:List cy) (i:Int):(fl xs).getD (i.toNat*5+1) (.v (.int .i64 0)) = .v (.int .i64 (ix xs i).Cells):=by
 have:=fm xs i 1 (by decide) (.v (.int .i64 0):SV) rfl
 rw [t8] at this
 exact this
@[push_cast] theorem Ib (xs:List cy) (i:Int):(fl xs).getD (i.toNat*5+3) (.v (.int .i64 0)) = .v (.int .i64 (ix xs i).Locks):=by
 have:=fm xs i 3 (by decide) (.v (.int .i64 0):SV) rfl
 rw [t8] at this
 exact this
@[push_cast] theorem HR (xs:List cy) (i:Int):(fl xs).getD (i.toNat*5+4) (.v (.int .i64 0)) = .v (.int .i64 (ix xs i).Groups):=by
 have:=fm xs i 4 (by decide) (.v (.int .i64 0):SV) rfl
 rw [t8] at this
 exact this
structure cD where
 Code:Int
 At:Int
 deriving Inhabited,DecidableEq
instance : bZ cD:=⟨2,λd=>[.v (.int .i64 d.Code),.v (.int .i64 d.At)],λ_=>rfl,λ_=>rfl,λ_=>by simp only [ip,SV.st,kQ,db]⟩
@[push_cast] theorem NS (xs:List cD):iT (fl xs)=true:=m3 (λ_=>rfl) xs
@[push_cast] theorem Dn:bZ.sz cD=2:=rfl
@[push_cast] theorem MT (d:cD):bZ.cells d=[.v (.int .i64 d.Code),.v (.int .i64 d.At)]:=rfl
@[push_cast] theorem Nq (xs:List cD) (x0:Int) (x1:Int):fl xs++[.v (.int .i64 x0),.v (.int .i64 x1)]=fl (xs++[cD.mk x0 x1]):=by rw [fF];rfl
@[push_cast] theorem Lp (xs:List cD) (i:Int):(fl xs).getD (i.toNat*2) (.v (.int .i64 0)) = .v (.int .i64 (ix xs i).Code):=by
 have:=fm xs i 0 (by decide) (.v (.int .i64 0):SV) rfl
 rw [Dn,eD] at this
 exact this
@[push_cast] theorem MU (xs:List cD) (i:Int):(fl xs).getD (i.toNat*2+1) (.v (.int .i64 0)) = .v (.int .i64 (ix xs i).At):=by
 have:=fm xs i 1 (by decide) (.v (.int .i64 0):SV) rfl
 rw [Dn] at this
 exact this
structure kind where
 name:ByteArray
 args:ByteArray
 deriving Inhabited,DecidableEq
instance : bZ kind:=⟨2,λd=>[.v (.string d.name),.v (.string d.args)],λ_=>rfl,λ_=>rfl,λ_=>by simp only [ip,SV.st,kQ,db]⟩
@[push_cast] theorem Oj (xs:List kind):iT (fl xs)=true:=m3 (λ_=>rfl) xs
@[push_cast] theorem Ov:bZ.sz kind=2:=rfl
@[push_cast] theorem Nr (d:kind):bZ.cells d=[.v (.string d.name),.v (.string d.args)]:=rfl
@[push_cast] theorem NT (xs:List kind) (x0:ByteArray) (x1:ByteArray):fl xs++[.v (.string x0),.v (.string x1)]=fl (xs++[kind.mk x0 x1]):=by rw [fF];rfl
structure cq where
 pc:Int
 r:dn 8
 state:Int
 when:Int
 seq:Int
 deriving Inhabited,DecidableEq
instance : bZ cq:=⟨12,λd=>((.v (.int .i64 d.pc)::(bZ.cells d.r++(.v (.int .i64 d.state)::(.v (.int .i64 d.when)::(.v (.int .i64 d.seq)::[]))))):List SV),(λ_=>by simp only [KJ,gu,List.length_nil]),(λ_=>by simp only [KL,mH,List.all_nil,jp,Value.oneCell',db]),λ_=>by simp only [E0,ip,SV.st,kQ,db]⟩
@[push_cast] theorem Ol (xs:List cq):iT (fl xs)=true:=m3 (λ_=>rfl) xs
@[push_cast] theorem xx:bZ.sz cq=12:=rfl
@[push_cast] theorem Ns (d:cq):bZ.cells d=((.v (.int .i64 d.pc)::(bZ.cells d.r++(.v (.int .i64 d.state)::(.v (.int .i64 d.when)::(.v (.int .i64 d.seq)::[]))))):List SV):=rfl
@[push_cast] theorem NU (xs:List cq) (x0:Int) (x1:dn 8) (x9:Int) (x10:Int) (x11:Int):fl xs++((.v (.int .i64 x0)::(bZ.cells x1++(.v (.int .i64 x9)::(.v (.int .i64 x10)::(.v (.int .i64 x11)::[]))))):List SV)=fl (xs++[cq.mk x0 x1 x9 x10 x11]):=by rw [fF];rfl
@[push_cast] theorem Nt (xs:List cq) (i:Int):(fl xs).getD (i.toNat*12) (.v (.int .i64 0)) = .v (.int .i64 (ix xs i).pc):=by
 have:=fm xs i 0 (by decide) (.v (.int .i64 0):SV) rfl
 rw [xx,eD] at this
 exact this
@[push_cast] theorem Lq (xs:List cq) (i:Int):(fl xs).getD (i.toNat*12+9) (.v (.int .i64 0)) = .v (.int .i64 (ix xs i).state):=by
 have:=fm xs i 9 (by decide) (.v (.int .i64 0):SV) rfl
 rw [xx] at this
 exact this
@[push_cast] theorem Mn (xs:List cq) (i:Int):(fl xs).getD (i.toNat*12+10) (.v (.int .i64 0)) = .v (.int .i64 (ix xs i).when):=by
 have:=fm xs i 10 (by decide) (.v (.int .i64 0):SV) rfl
 rw [xx] at this
 exact this
@[push_cast] theorem MW (xs:List cq) (i:Int):(fl xs).getD (i.toNat*12+11) (.v (.int .i64 0)) = .v (.int .i64 (ix xs i).seq):=by
 have:=fm xs i 11 (by decide) (.v (.int .i64 0):SV) rfl
 rw [xx] at this
 exact this
structure bV where
 now:Int
 Ring_Next:Int
 Ring_List:(List Int)
 deriving Inhabited,DecidableEq
instance : bZ bV:=⟨3,λd=>[.v (.int .i64 d.now),.v (.int .i64 d.Ring_Next),.sl d.Ring_List.length (fl d.Ring_List)],λ_=>rfl,λ_=>rfl,λ_=>by simp only [ip,SV.st,kQ,db]⟩
@[push_cast] theorem w7:bZ.sz bV=3:=rfl
@[push_cast] theorem Jp (d:bV):bZ.cells d=[.v (.int .i64 d.now),.v (.int .i64 d.Ring_Next),.sl d.Ring_List.length (fl d.Ring_List)]:=rfl
@[push_cast] theorem KO (xs:List bV) (x0:Int) (x1:Int) (x2:(List Int)):fl xs++[.v (.int .i64 x0),.v (.int .i64 x1),.sl x2.length (fl x2)]=fl (xs++[bV.mk x0 x1 x2]):=by rw [fF];rfl
@[push_cast] theorem IV (xs:List bV) (i:Int):(fl xs).getD (i.toNat*3) (.v (.int .i64 0)) = .v (.int .i64 (ix xs i).now):=by
 have:=fm xs i 0 (by decide) (.v (.int .i64 0):SV) rfl
 rw [w7,eD] at this
 exact this
@[push_cast] theorem Er (xs:List bV) (i:Int):(fl xs).getD (i.toNat*3+1) (.v (.int .i64 0)) = .v (.int .i64 (ix xs i).Ring_Next):=by
 have:=fm xs i 1 (by decide) (.v (.int .i64 0):SV) rfl
 rw [w7] at this
 exact this
structure cI where
 Task:Int
 Case:Int
 Value:Int
 deriving Inhabited,DecidableEq
instance : bZ cI:=⟨3,λd=>[.v (.int .i64 d.Task),.v (.int .i64 d.Case),.v (.int .i64 d.Value)],λ_=>rfl,λ_=>rfl,λ_=>by simp only [ip,SV.st,kQ,db]⟩
@[push_cast] theorem NV (xs:List cI):iT (fl xs)=true:=m3 (λ_=>rfl) xs
@[push_cast] theorem yA:bZ.sz cI=3:=rfl
@[push_cast] theorem MX (d:cI):bZ.cells d=[.v (.int .i64 d.Task),.v (.int .i64 d.Case),.v (.int .i64 d.Value)]:=rfl
@[push_cast] theorem Nu (xs:List cI) (x0:Int) (x1:Int) (x2:Int):fl xs++[.v (.int .i64 x0),.v (.int .i64 x1),.v (.int .i64 x2)]=fl (xs++[cI.mk x0 x1 x2]):=by rw [fF];rfl
@[push_cast] theorem Lr (xs:List cI) (i:Int):(fl xs).getD (i.toNat*3) (.v (.int .i64 0)) = .v (.int .i64 (ix xs i).Task):=by
 have:=fm xs i 0 (by decide) (.v (.int .i64 0):SV) rfl
 rw [yA,eD] at this
 exact this
@[push_cast] theorem Ls (xs:List cI) (i:Int):(fl xs).getD (i.toNat*3+1) (.v (.int .i64 0)) = .v (.int .i64 (ix xs i).Case):=by
 have:=fm xs i 1 (by decide) (.v (.int .i64 0):SV) rfl
 rw [yA] at this
 exact this
@[push_cast] theorem KP (xs:List cI) (i:Int):(fl xs).getD (i.toNat*3+2) (.v (.int .i64 0)) = .v (.int .i64 (ix xs i).Value):=by
 have:=fm xs i 2 (by decide) (.v (.int .i64 0):SV) rfl
 rw [yA] at this
 exact this
structure cR where
 Cap:Int
 Items:(List Int)
 Closed:Bool
 Senders:(List cI)
 Getters:(List cI)
 deriving Inhabited,DecidableEq
instance : bZ cR:=⟨5,λd=>[.v (.int .i64 d.Cap),.sl d.Items.length (fl d.Items),.v (.bool d.Closed),.sl d.Senders.length (fl d.Senders),.sl d.Getters.length (fl d.Getters)],λ_=>rfl,λ_=>rfl,λ_=>by simp only [ip,SV.st,kQ,db]⟩
@[push_cast] theorem Fa:bZ.sz cR=5:=rfl
@[push_cast] theorem Nv (d:cR):bZ.cells d=[.v (.int .i64 d.Cap),.sl d.Items.length (fl d.Items),.v (.bool d.Closed),.sl d.Senders.length (fl d.Senders),.sl d.Getters.length (fl d.Getters)]:=rfl
@[push_cast] theorem NW (xs:List cR) (x0:Int) (x1:(List Int)) (x2:Bool) (x3:(List cI)) (x4:(List cI)):fl xs++[.v (.int .i64 x0),.sl x1.length (fl x1),.v (.bool x2),.sl x3.length (fl x3),.sl x4.length (fl x4)]=fl (xs++[cR.mk x0 x1 x2 x3 x4]):=by rw [fF];rfl
@[push_cast] theorem MY (xs:List cR) (i:Int):(fl xs).getD (i.toNat*5) (.v (.int .i64 0)) = .v (.int .i64 (ix xs i).Cap):=by
 have:=fm xs i 0 (by decide) (.v (.int .i64 0):SV) rfl
 rw [Fa,eD] at this
 exact this
@[push_cast] theorem KQ (xs:List cR) (i:Int):(fl xs).getD (i.toNat*5+2) (.v (.bool false)) = .v (.bool (ix xs i).Closed):=by
 have:=fm xs i 2 (by decide) (.v (.bool false):SV) rfl
 rw [Fa] at this
 exact this
structure dR where
 Task:Int
 Write:Bool
 N:Int
 deriving Inhabited,DecidableEq
instance : bZ dR:=⟨3,λd=>[.v (.int .i64 d.Task),.v (.bool d.Write),.v (.int .i64 d.N)],λ_=>rfl,λ_=>rfl,λ_=>by simp only [ip,SV.st,kQ,db]⟩
@[push_cast] theorem Om (xs:List dR):iT (fl xs)=true:=m3 (λ_=>rfl) xs
@[push_cast] theorem Ay:bZ.sz dR=3:=rfl
@[push_cast] theorem Nw (d:dR):bZ.cells d=[.v (.int .i64 d.Task),.v (.bool d.Write),.v (.int .i64 d.N)]:=rfl
@[push_cast] theorem NX (xs:List dR) (x0:Int) (x1:Bool) (x2:Int):fl xs++[.v (.int .i64 x0),.v (.bool x1),.v (.int .i64 x2)]=fl (xs++[dR.mk x0 x1 x2]):=by rw [fF];rfl
@[push_cast] theorem Mo (xs:List dR) (i:Int):(fl xs).getD (i.toNat*3) (.v (.int .i64 0)) = .v (.int .i64 (ix xs i).Task):=by
 have:=fm xs i 0 (by decide) (.v (.int .i64 0):SV) rfl
 rw [Ay,eD] at this
 exact this
@[push_cast] theorem Lt (xs:List dR) (i:Int):(fl xs).getD (i.toNat*3+1) (.v (.bool false)) = .v (.bool (ix xs i).Write):=by
 have:=fm xs i 1 (by decide) (.v (.bool false):SV) rfl
 rw [Ay] at this
 exact this
@[push_cast] theorem NY (xs:List dR) (i:Int):(fl xs).getD (i.toNat*3+2) (.v (.int .i64 0)) = .v (.int .i64 (ix xs i).N):=by
 have:=fm xs i 2 (by decide) (.v (.int .i64 0):SV) rfl
 rw [Ay] at this
 exact this
structure di where
 Readers:Int
 Writer:Bool
 Line:(List dR)
 deriving Inhabited,DecidableEq
instance : bZ di:=⟨3,λd=>[.v (.int .i64 d.Readers),.v (.bool d.Writer),.sl d.Line.length (fl d.Line)],λ_=>rfl,λ_=>rfl,λ_=>by simp only [ip,SV.st,kQ,db]⟩
@[push_cast] theorem Fb:bZ.sz di=3:=rfl
@[push_cast] theorem Nx (d:di):bZ.cells d=[.v (.int .i64 d.Readers),.v (.bool d.Writer),.sl d.Line.length (fl d.Line)]:=rfl
@[push_cast] theorem NZ (xs:List di) (x0:Int) (x1:Bool) (x2:(List dR)):fl xs++[.v (.int .i64 x0),.v (.bool x1),.sl x2.length (fl x2)]=fl (xs++[di.mk x0 x1 x2]):=by rw [fF];rfl
@[push_cast] theorem Jq (xs:List di) (i:Int):(fl xs).getD (i.toNat*3) (.v (.int .i64 0)) = .v (.int .i64 (ix xs i).Readers):=by
 have:=fm xs i 0 (by decide) (.v (.int .i64 0):SV) rfl
 rw [Fb,eD] at this
 exact this
@[push_cast] theorem KR (xs:List di) (i:Int):(fl xs).getD (i.toNat*3+1) (.v (.bool false)) = .v (.bool (ix xs i).Writer):=by
 have:=fm xs i 1 (by decide) (.v (.bool false):SV) rfl
 rw [Fb] at this
 exact this
structure cX where
 Count:Int
 Line:(List Int)
 deriving Inhabited,DecidableEq
instance : bZ cX:=⟨2,λd=>[.v (.int .i64 d.Count),.sl d.Line.length (fl d.Line)],λ_=>rfl,λ_=>rfl,λ_=>by simp only [ip,SV.st,kQ,db]⟩
@[push_cast] theorem IW:bZ.sz cX=2:=rfl
@[push_cast] theorem MZ (d:cX):bZ.cells d=[.v (.int .i64 d.Count),.sl d.Line.length (fl d.Line)]:=rfl
@[push_cast] theorem Ny (xs:List cX) (x0:Int) (x1:(List Int)):fl xs++[.v (.int .i64 x0),.sl x1.length (fl x1)]=fl (xs++[cX.mk x0 x1]):=by rw [fF];rfl
@[push_cast] theorem KS (xs:List cX) (i:Int):(fl xs).getD (i.toNat*2) (.v (.int .i64 0)) = .v (.int .i64 (ix xs i).Count):=by
 have:=fm xs i 0 (by decide) (.v (.int .i64 0):SV) rfl
 rw [IW,eD] at this
 exact this
structure cz where
 Task:Int
 Op:Int
 Obj:Int
 Value:Int
 deriving Inhabited,DecidableEq
instance : bZ cz:=⟨4,λd=>[.v (.int .i64 d.Task),.v (.int .i64 d.Op),.v (.int .i64 d.Obj),.v (.int .i64 d.Value)],λ_=>rfl,λ_=>rfl,λ_=>by simp only [ip,SV.st,kQ,db]⟩
@[push_cast] theorem Nz (xs:List cz):iT (fl xs)=true:=m3 (λ_=>rfl) xs
@[push_cast] theorem tJ:bZ.sz cz=4:=rfl
@[push_cast] theorem Mp (d:cz):bZ.cells d=[.v (.int .i64 d.Task),.v (.int .i64 d.Op),.v (.int .i64 d.Obj),.v (.int .i64 d.Value)]:=rfl
@[push_cast] theorem M0 (xs:List cz) (x0:Int) (x1:Int) (x2:Int) (x3:Int):fl xs++[.v (.int .i64 x0),.v (.int .i64 x1),.v (.int .i64 x2),.v (.int .i64 x3)]=fl (xs++[cz.mk x0 x1 x2 x3]):=by rw [fF];rfl
@[push_cast] theorem KT (xs:List cz) (i:Int):(fl xs).getD (i.toNat*4) (.v (.int .i64 0)) = .v (.int .i64 (ix xs i).Task):=by
 have:=fm xs i 0 (by decide) (.v (.int .i64 0):SV) rfl
 rw [tJ,eD] at this
 exact this
@[push_cast] theorem Mq (xs:List cz) (i:Int):(fl xs).getD (i.toNat*4+1) (.v (.int .i64 0)) = .v (.int .i64 (ix xs i).Op):=by
 have:=fm xs i 1 (by decide) (.v (.int .i64 0):SV) rfl
 rw [tJ] at this
 exact this
@[push_cast] theorem Lu (xs:List cz) (i:Int):(fl xs).getD (i.toNat*4+2) (.v (.int .i64 0)) = .v (.int .i64 (ix xs i).Obj):=by
 have:=fm xs i 2 (by decide) (.v (.int .i64 0):SV) rfl
 rw [tJ] at this
 exact this
@[push_cast] theorem Jr (xs:List cz) (i:Int):(fl xs).getD (i.toNat*4+3) (.v (.int .i64 0)) = .v (.int .i64 (ix xs i).Value):=by
 have:=fm xs i 3 (by decide) (.v (.int .i64 0):SV) rfl
 rw [tJ] at this
 exact this
structure fy where
 Next:Int
 List:(List Int)
 deriving Inhabited,DecidableEq
instance : bZ fy:=⟨2,λd=>[.v (.int .i64 d.Next),.sl d.List.length (fl d.List)],λ_=>rfl,λ_=>rfl,λ_=>by simp only [ip,SV.st,kQ,db]⟩
@[push_cast] theorem KU:bZ.sz fy=2:=rfl
@[push_cast] theorem NA (d:fy):bZ.cells d=[.v (.int .i64 d.Next),.sl d.List.length (fl d.List)]:=rfl
@[push_cast] theorem N0 (xs:List fy) (x0:Int) (x1:(List Int)):fl xs++[.v (.int .i64 x0),.sl x1.length (fl x1)]=fl (xs++[fy.mk x0 x1]):=by rw [fF];rfl
@[push_cast] theorem Mr (xs:List fy) (i:Int):(fl xs).getD (i.toNat*2) (.v (.int .i64 0)) = .v (.int .i64 (ix xs i).Next):=by
 have:=fm xs i 0 (by decide) (.v (.int .i64 0):SV) rfl
 rw [KU,eD] at this
 exact this
structure dc where
 Task:Int
 Case:Int
 Value:Int
 Ok:Bool
 Panic:Bool
 deriving Inhabited,DecidableEq
instance : bZ dc:=⟨5,λd=>[.v (.int .i64 d.Task),.v (.int .i64 d.Case),.v (.int .i64 d.Value),.v (.bool d.Ok),.v (.bool d.Panic)],λ_=>rfl,λ_=>rfl,λ_=>by simp only [ip,SV.st,kQ,db]⟩
@[push_cast] theorem N7 (xs:List dc):iT (fl xs)=true:=m3 (λ_=>rfl) xs
@[push_cast] theorem s8:bZ.sz dc=5:=rfl
@[push_cast] theorem M7 (d:dc):bZ.cells d=[.v (.int .i64 d.Task),.v (.int .i64 d.Case),.v (.int .i64 d.Value),.v (.bool d.Ok),.v (.bool d.Panic)]:=rfl
@[push_cast] theorem NB (xs:List dc) (x0:Int) (x1:Int) (x2:Int) (x3:Bool) (x4:Bool):fl xs++[.v (.int .i64 x0),.v (.int .i64 x1),.v (.int .i64 x2),.v (.bool x3),.v (.bool x4)]=fl (xs++[dc.mk x0 x1 x2 x3 x4]):=by rw [fF];rfl
@[push_cast] theorem Lv (xs:List dc) (i:Int):(fl xs).getD (i.toNat*5) (.v (.int .i64 0)) = .v (.int .i64 (ix xs i).Task):=by
 have:=fm xs i 0 (by decide) (.v (.int .i64 0):SV) rfl
 rw [s8,eD] at this
 exact this
@[push_cast] theorem Lw (xs:List dc) (i:Int):(fl xs).getD (i.toNat*5+1) (.v (.int .i64 0)) = .v (.int .i64 (ix xs i).Case):=by
 have:=fm xs i 1 (by decide) (.v (.int .i64 0):SV) rfl
 rw [s8] at this
 exact this
@[push_cast] theorem KV (xs:List dc) (i:Int):(fl xs).getD (i.toNat*5+2) (.v (.int .i64 0)) = .v (.int .i64 (ix xs i).Value):=by
 have:=fm xs i 2 (by decide) (.v (.int .i64 0):SV) rfl
 rw [s8] at this
 exact this
@[push_cast] theorem M8 (xs:List dc) (i:Int):(fl xs).getD (i.toNat*5+3) (.v (.bool false)) = .v (.bool (ix xs i).Ok):=by
 have:=fm xs i 3 (by decide) (.v (.bool false):SV) rfl
 rw [s8] at this
 exact this
@[push_cast] theorem KW (xs:List dc) (i:Int):(fl xs).getD (i.toNat*5+4) (.v (.bool false)) = .v (.bool (ix xs i).Panic):=by
 have:=fm xs i 4 (by decide) (.v (.bool false):SV) rfl
 rw [s8] at this
 exact this
structure li where
 Done:Bool
 Panic:Bool
 Ok:Bool
 Value:Int
 Case:Int
 Wakes:(List dc)
 deriving Inhabited,DecidableEq
instance : bZ li:=⟨6,λd=>[.v (.bool d.Done),.v (.bool d.Panic),.v (.bool d.Ok),.v (.int .i64 d.Value),.v (.int .i64 d.Case),.sl d.Wakes.length (fl d.Wakes)],λ_=>rfl,λ_=>rfl,λ_=>by simp only [ip,SV.st,kQ,db]⟩
@[push_cast] theorem rJ:bZ.sz li=6:=rfl
@[push_cast] theorem Ms (d:li):bZ.cells d=[.v (.bool d.Done),.v (.bool d.Panic),.v (.bool d.Ok),.v (.int .i64 d.Value),.v (.int .i64 d.Case),.sl d.Wakes.length (fl d.Wakes)]:=rfl
@[push_cast] theorem M9 (xs:List li) (x0:Bool) (x1:Bool) (x2:Bool) (x3:Int) (x4:Int) (x5:(List dc)):fl xs++[.v (.bool x0),.v (.bool x1),.v (.bool x2),.v (.int .i64 x3),.v (.int .i64 x4),.sl x5.length (fl x5)]=fl (xs++[li.mk x0 x1 x2 x3 x4 x5]):=by rw [fF];rfl
@[push_cast] theorem KX (xs:List li) (i:Int):(fl xs).getD (i.toNat*6) (.v (.bool false)) = .v (.bool (ix xs i).Done):=by
 have:=fm xs i 0 (by decide) (.v (.bool false):SV) rfl
 rw [rJ,eD] at this
 exact this
@[push_cast] theorem Js (xs:List li) (i:Int):(fl xs).getD (i.toNat*6+1) (.v (.bool false)) = .v (.bool (ix xs i).Panic):=by
 have:=fm xs i 1 (by decide) (.v (.bool false):SV) rfl
 rw [rJ] at this
 exact this
@[push_cast] theorem Mt (xs:List li) (i:Int):(fl xs).getD (i.toNat*6+2) (.v (.bool false)) = .v (.bool (ix xs i).Ok):=by
 have:=fm xs i 2 (by decide) (.v (.bool false):SV) rfl
 rw [rJ] at this
 exact this
@[push_cast] theorem Jt (xs:List li) (i:Int):(fl xs).getD (i.toNat*6+3) (.v (.int .i64 0)) = .v (.int .i64 (ix xs i).Value):=by
 have:=fm xs i 3 (by decide) (.v (.int .i64 0):SV) rfl
 rw [rJ] at this
 exact this
@[push_cast] theorem KY (xs:List li) (i:Int):(fl xs).getD (i.toNat*6+4) (.v (.int .i64 0)) = .v (.int .i64 (ix xs i).Case):=by
 have:=fm xs i 4 (by decide) (.v (.int .i64 0):SV) rfl
 rw [rJ] at this
 exact this
structure jR where
 Trace:(List cz)
 State:Int
 Steps:Int
 Now:Int
 Tasks:(List Int)
 Cells:(List Int)
 deriving Inhabited,DecidableEq
instance : bZ jR:=⟨6,λd=>[.sl d.Trace.length (fl d.Trace),.v (.int .i64 d.State),.v (.int .i64 d.Steps),.v (.int .i64 d.Now),.sl d.Tasks.length (fl d.Tasks),.sl d.Cells.length (fl d.Cells)],λ_=>rfl,λ_=>rfl,λ_=>by simp only [ip,SV.st,kQ,db]⟩
@[push_cast] theorem w8:bZ.sz jR=6:=rfl
@[push_cast] theorem Mu (d:jR):bZ.cells d=[.sl d.Trace.length (fl d.Trace),.v (.int .i64 d.State),.v (.int .i64 d.Steps),.v (.int .i64 d.Now),.sl d.Tasks.length (fl d.Tasks),.sl d.Cells.length (fl d.Cells)]:=rfl
@[push_cast] theorem M_ (xs:List jR) (x0:(List cz)) (x1:Int) (x2:Int) (x3:Int) (x4:(List Int)) (x5:(List Int)):fl xs++[.sl x0.length (fl x0),.v (.int .i64 x1),.v (.int .i64 x2),.v (.int .i64 x3),.sl x4.length (fl x4),.sl x5.length (fl x5)]=fl (xs++[jR.mk x0 x1 x2 x3 x4 x5]):=by rw [fF];rfl
@[push_cast] theorem Ju (xs:List jR) (i:Int):(fl xs).getD (i.toNat*6+1) (.v (.int .i64 0)) = .v (.int .i64 (ix xs i).State):=by
 have:=fm xs i 1 (by decide) (.v (.int .i64 0):SV) rfl
 rw [w8] at this
 exact this
@[push_cast] theorem Jv (xs:List jR) (i:Int):(fl xs).getD (i.toNat*6+2) (.v (.int .i64 0)) = .v (.int .i64 (ix xs i).Steps):=by
 have:=fm xs i 2 (by decide) (.v (.int .i64 0):SV) rfl
 rw [w8] at this
 exact this
@[push_cast] theorem Lx (xs:List jR) (i:Int):(fl xs).getD (i.toNat*6+3) (.v (.int .i64 0)) = .v (.int .i64 (ix xs i).Now):=by
 have:=fm xs i 3 (by decide) (.v (.int .i64 0):SV) rfl
 rw [w8] at this
 exact this
def ic:List kind:=[⟨⟨#[]⟩,⟨#[]⟩⟩,⟨⟨#[115,101,116]⟩,⟨#[114,110]⟩⟩,⟨⟨#[99,111,112,121]⟩,⟨#[114,114]⟩⟩,⟨⟨#[97,100,100]⟩,⟨#[114,114]⟩⟩,⟨⟨#[115,117,98]⟩,⟨#[114,114]⟩⟩,⟨⟨#[108,101,115,115]⟩,⟨#[114,114]⟩⟩,⟨⟨#[106,117,109,112]⟩,⟨#[99,45]⟩⟩,⟨⟨#[122,101,114,111]⟩,⟨#[114,99]⟩⟩,⟨⟨#[112,114,105,110,116]⟩,⟨#[114,45]⟩⟩,⟨⟨#[101,110,100]⟩,⟨#[45,45]⟩⟩,⟨⟨#[121,105,101,108,100]⟩,⟨#[45,45]⟩⟩,⟨⟨#[103,111]⟩,⟨#[99,114]⟩⟩,⟨⟨#[108,111,97,100]⟩,⟨#[114,109]⟩⟩,⟨⟨#[115,116,111,114,101]⟩,⟨#[109,114]⟩⟩,⟨⟨#[115,101,110,100]⟩,⟨#[112,114]⟩⟩,⟨⟨#[103,101,116]⟩,⟨#[114,112]⟩⟩,⟨⟨#[115,104,117,116]⟩,⟨#[112,45]⟩⟩,⟨⟨#[108,111,99,107]⟩,⟨#[108,107]⟩⟩,⟨⟨#[117,110,108,111,99,107]⟩,⟨#[108,107]⟩⟩,⟨⟨#[99,111,117,110,116]⟩,⟨#[103,114]⟩⟩,⟨⟨#[119,97,105,116]⟩,⟨#[103,45]⟩⟩,⟨⟨#[115,108,101,101,112]⟩,⟨#[114,45]⟩⟩,⟨⟨#[112,97,110,105,99]⟩,⟨#[45,45]⟩⟩]
def fY:List ByteArray:=[⟨#[]⟩,⟨#[114,110]⟩,⟨#[114,114]⟩,⟨#[114,114]⟩,⟨#[114,114]⟩,⟨#[114,114]⟩,⟨#[99,45]⟩,⟨#[114,99]⟩,⟨#[114,45]⟩,⟨#[45,45]⟩,⟨#[45,45]⟩,⟨#[99,114]⟩,⟨#[114,109]⟩,⟨#[109,114]⟩,⟨#[112,114]⟩,⟨#[114,112]⟩,⟨#[112,45]⟩,⟨#[108,107]⟩,⟨#[108,107]⟩,⟨#[103,114]⟩,⟨#[103,45]⟩,⟨#[114,45]⟩,⟨#[45,45]⟩]
def nu (a b:Int):Option (cD):=(some ((cD.mk a b)))
def rK (p:cy) (k x:Int):Option (Bool):=(bif (k==110) then (some (true)) else (some (((decide ((0:Int)<=x))&&(decide (x<(fV [(114,8),(99,(p.Code.length:Int)),(109,p.Cells),(112,(p.Pipes.length:Int)),(108,p.Locks),(103,p.Groups),(107,2),(45,1)] k)))))))
def py (a:Int) (b:Bool):Option (((Int) ⊕ (cD))):=(bif b then ((nu 5 a).bind λc=>(Option.map Sum.inr (some (c)))) else (some (Sum.inl ((i64.wrap (a+1))))))
def jd (p:cy):Int->Option (((Int) ⊕ (cD))):=λa=>(bif (decide (a<(p.Code.length:Int))) then (bif ((decide ((0:Int)<=a))&&(decide (a<(p.Code.length:Int)))) then (bif ((decide ((ix p.Code a).Op<1))||(decide ((23:Int)<=(ix p.Code a).Op))) then ((nu 4 a).bind λd=>(Option.map Sum.inr (some (d)))) else (bif ((decide ((0:Int)<=(ix p.Code a).Op))&&(decide ((ix p.Code a).Op<(ic.length:Int)))) then (bif (decide ((0:Int)<((((ix ic (ix p.Code a).Op).args).size:Nat):Int))) then ((rK p ((((ix ic (ix p.Code a).Op).args).data.getD ((0:Int)).toNat 0).toNat:Int) (ix p.Code a).A).bind λb=>(bif (!b) then (py a true) else (bif (decide ((1:Int)<((((ix ic (ix p.Code a).Op).args).size:Nat):Int))) then ((rK p ((((ix ic (ix p.Code a).Op).args).data.getD ((1:Int)).toNat 0).toNat:Int) (ix p.Code a).B).bind λc=>(py a (!c))) else none))) else none) else none)) else none) else (Option.map Sum.inr (some ((cD.mk 0 0)))))
def mc (p:cy):Int->Option (((Int) ⊕ (cD))):=λa=>(bif (decide (a<(p.Pipes.length:Int))) then (bif ((decide ((0:Int)<=a))&&(decide (a<(p.Pipes.length:Int)))) then (bif ((decide ((ix p.Pipes a)<0))||(decide ((100:Int)<(ix p.Pipes a)))) then ((nu 8 a).bind λb=>(Option.map Sum.inr (some (b)))) else (some (Sum.inl ((i64.wrap (a+1)))))) else none) else (Option.map Sum.inr (dH (jd p) (0))))
def qk (p:cy):Option (cD):=(bif ((decide ((1000:Int)<(p.Code.length:Int)))||(decide ((20:Int)<(p.Pipes.length:Int)))) then ((nu 2 0).bind λb=>(some (b))) else (bif ((decide ((min (min p.Cells p.Locks) p.Groups)<0))||(decide ((20:Int)<(max (max p.Cells p.Locks) p.Groups)))) then ((nu 3 0).bind λa=>(some (a))) else (dH (mc p) (0))))
def ph (a b:Int):Option (cD):=(some ((cD.mk a b)))
def kh (p:cy) (c:List bV):Int×(List cR)->Option (((Int×List cR) ⊕ ((List Int)×List cq×List bV×List Int×List cR×List di×List cX))):=λ(a,b)=>(bif (decide (a<(p.Pipes.length:Int))) then (bif ((decide ((0:Int)<=a))&&(decide (a<(p.Pipes.length:Int)))) then (bif (decide ((b++([(cR.mk (ix p.Pipes a) [] false [] [])]:List cR)).length*88<=140737488355328)) then (some (Sum.inl ((i64.wrap (a+1)),(b++([(cR.mk (ix p.Pipes a) [] false [] [])]:List cR))))) else none) else none) else (Option.map Sum.inr (bif (decide (0<=p.Locks/\p.Locks<=4611686018427387904/\(40:Int)*p.Locks<=140737488355328)) then (bif (decide (0<=p.Groups/\p.Groups<=4611686018427387904/\(32:Int)*p.Groups<=140737488355328)) then (some ((List.replicate (p.Cells).toNat (default:Int)),([((cq.mk 0 (default:(dn 8)) 0 0 0):cq)]:List cq),c,([1]:List Int),b,(List.replicate (p.Locks).toNat (default:di)),(List.replicate (p.Groups).toNat (default:cX)))) else none) else none)))
def ki (p:cy) (c:Int):Int×(List bV)->Option (((Int×List bV) ⊕ ((List Int)×List cq×List bV×List Int×List cR×List di×List cX))):=λ(a,b)=>(bif (decide (a<c)) then (bif (decide ((b++[((bV.mk 0 0 []):bV)]).length*8<=140737488355328)) then (some (Sum.inl ((i64.wrap (a+1)),(b++[((bV.mk 0 0 []):bV)])))) else none) else (Option.map Sum.inr (dH (kh p b) (0,[]))))
def lR (p:cy) (a:Int):Option ((List Int)×List cq×List bV×List Int×List cR×List di×List cX):=(bif (decide (0<=p.Cells/\p.Cells<=4611686018427387904/\(8:Int)*p.Cells<=140737488355328)) then (dH (ki p a) (0,[])) else none)
def iz (m:(List (PT cq))) (t:Int):Option (cq):=(bif ((decide ((0:Int)<=(i64.wrap (t-1))))&&(decide ((i64.wrap (t-1))<(m.length:Int)))) then (some ((ix m (i64.wrap (t-1))).x)) else none)
def nI (x:Int):Option (Bool):=(some ((x != x)))
def kS (x y:Int):Option (Int):=((nI x).bind λb=>((nI y).bind λa=>(bif b then (bif a then (some (0)) else (some ((-1)))) else (bif a then (some (1)) else (bif (decide (x<y)) then (some ((-1))) else (bif (decide (y<x)) then (some (1)) else (some (0))))))))
def pz (b:List Int):Int->Option (((Int) ⊕ (Int))):=λa=>(bif (decide (a<(b.length:Int))) then (bif ((decide ((0:Int)<=a))&&(decide (a<(b.length:Int)))) then (bif ((ix b a) != 0) then (Option.map Sum.inr (some ((ix b a)))) else (some (Sum.inl ((i64.wrap (a+1)))))) else none) else (Option.map Sum.inr (some (0))))
def ql (a:List Int):Option (Int):=(dH (pz a) (0))
def eE (j b:Int) (i:(List (PT cq))):Option (Int):=((iz i j).bind λa=>((iz i b).bind λg=>((kS a.when g.when).bind λd=>((iz i j).bind λc=>((iz i b).bind λe=>((kS c.seq e.seq).bind λh=>((ql ([d,h]:List Int)).bind λf=>(some (f)))))))))
def kj (c0:List Int) (ts:(List (PT cq))):Option (List Int):=open Classical in if (∀ a b:Int,1<=a/\a<=((((c0.foldl max 0).toNat):Nat):Int)->1<=b/\b<=((((c0.foldl max 0).toNat):Nat):Int)->(eE a b ts).isSome=true)/\Go.Sort.SWO (Go.Proofs.ltOf λ(a b:Rg ((c0.foldl max 0).toNat))=>(λa b:Int=>(eE a b ts).getD 0) a.1 b.1)/\(∀ x∈c0,1<=x/\x<=((((c0.foldl max 0).toNat):Nat):Int))/\c0.length<4611686018427387904 then some (oO ((c0.foldl max 0).toNat) (λa b:Int=>(eE a b ts).getD 0) c0) else none
def iM (b:Int) (c:List cq) (a:List Int):Option (((Int×List cq×List Int) ⊕ (Int×List Int×List cq))):=(some (Sum.inl ((i64.wrap (b+1)),c,a)))
def j_ (c:Int) (g:List cq) (f:List Int):Int×List cq×(List Int)->Option (((Int×List cq×List Int) ⊕ (Int×List Int×List cq))):=λ(a,b,d)=>(bif (decide (a<(g.length:Int))) then (bif ((decide ((0:Int)<=a))&&(decide (a<(b.length:Int)))) then (bif (((ix b a).state==2)&&(decide ((ix b a).when<=(i64.wrap (c+1))))) then (bif (decide ((d++([(i64.wrap (a+1))]:List Int)).length*8<=140737488355328)) then (iM a (b.set a.toNat ((cq.mk (ix b a).pc (ix b a).r 0 (ix b a).when (ix b a).seq):cq)) (d++([(i64.wrap (a+1))]:List Int))) else none) else (iM a b d)) else none) else (Option.map Sum.inr ((kj d (b.map PT.mk)).bind λe=>(bif (decide (e.length=d.length)) then (bif (decide ((f++e).length*8<=140737488355328)) then (some ((i64.wrap (c+1)),(f++e),b)) else none) else none))))
def jS (a:Int) (b:List cq) (c:List Int):Option (Int×List Int×List cq):=(dH (j_ a b c) (0,b,[]))
def ig (a b:Int):Option (cD):=(some ((cD.mk a b)))
def md (q:fy):Int×(List (Int×Int))->Option (((Int×(List (Int×Int))) ⊕ (cD))):=λ(a,b)=>(bif (decide (a<(q.List.length:Int))) then (bif ((decide ((0:Int)<=a))&&(decide (a<(q.List.length:Int)))) then (bif (decide ((ix q.List a)<1)) then ((ig 3 (i64.wrap (a+1))).bind λd=>(Option.map Sum.inr (some (d)))) else (bif (decide ((0:Int)<(fV b (ix q.List a)))) then ((ig 10 (i64.wrap (a+1))).bind λc=>(Option.map Sum.inr (some (c)))) else (some (Sum.inl ((i64.wrap (a+1)),(iu b (ix q.List a) 1)))))) else none) else (Option.map Sum.inr (some ((cD.mk 0 0)))))
def nJ (q:fy) (a:(List (Int×Int))):Option (cD):=(dH (md q) (0,a))
def kC (q:fy):Option (cD):=(bif (decide ((256:Int)<(q.List.length:Int))) then ((ig 2 0).bind λb=>(some (b))) else (bif (decide (q.Next<0)) then ((ig 3 0).bind λa=>(some (a))) else (bif (decide ((0:Int)<q.Next)) then (nJ q (iu [] q.Next 1)) else (nJ q []))))
def fe (s:List Int):Option ((List Int)):=(bif (decide ((([]:List Int)++s).length*8<=140737488355328)) then (some ((([]:List Int)++s))) else none)
def kD (q:fy):Option ((List Int)):=((fe q.List).bind λa=>(some (a)))
def iW (q:fy):Option (Int×Int×cD×List Int):=((kC q).bind λb=>(bif (b.Code != 0) then (some (0,0,b,[])) else ((kD q).bind λa=>(bif (decide ((0:Int)<q.Next)) then (some (0,q.Next,(cD.mk 0 0),a)) else (bif ((a.length:Int)==0) then ((ig 6 0).bind λd=>(some (0,0,d,[]))) else (bif (decide ((0:Int)<(a.length:Int))) then (bif (decide ((1:Int)<=(a.length:Int))) then ((fe (cut a (1:Int) (a.length:Int))).bind λc=>(some (q.Next,(ix a (0:Int)),(cD.mk 0 0),c))) else none) else none))))))
def fK (c:Int) (b:cD) (a:List bV):Option (Bool×List bV):=(bif (decide (0<=c/\c<(a.length:Int))) then (some ((b.Code==0),a)) else none)
def dU (b:Int) (c:List bV):Option (Bool×List bV):=(bif (decide (0<=b/\b<(c.length:Int))) then ((iW (fy.mk (ix c b).Ring_Next (ix c b).Ring_List)).bind λa=>((λz0:List bV=>(bif (a.2.2.1.Code==0) then (fK b a.2.2.1 (z0.set b.toNat ((bV.mk a.2.1 (ix z0 b).Ring_Next (ix z0 b).Ring_List):bV))) else (fK b a.2.2.1 c))) (c.set b.toNat ((bV.mk (ix c b).now a.1 a.2.2.2):bV)))) else none)
def mK (q:fy):Option ((List Int)):=(bif (decide ((0:Int)<q.Next)) then (bif (decide ((([q.Next]:List Int)++q.List).length*8<=140737488355328)) then (some ((([q.Next]:List Int)++q.List))) else none) else ((fe q.List).bind λa=>(some (a))))
def nv (b:List Int):Int×(List (Int×Int))->Option (((Int×(List (Int×Int))) ⊕ (Int))):=λ(a,c)=>(bif (decide (a<(b.length:Int))) then (bif ((decide ((0:Int)<=a))&&(decide (a<(b.length:Int)))) then (bif (decide ((0:Int)<(fV c (ix b a)))) then (Option.map Sum.inr (some (a))) else (some (Sum.inl ((i64.wrap (a+1)),(iu c (ix b a) 1))))) else none) else (Option.map Sum.inr (some ((-1)))))
def nw (d b:List Int):Int×(List (Int×Int))->Option (((Int×(List (Int×Int))) ⊕ (Int))):=λ(a,c)=>(bif (decide (a<(d.length:Int))) then (bif ((decide ((0:Int)<=a))&&(decide (a<(d.length:Int)))) then (some (Sum.inl ((i64.wrap (a+1)),(iu c (ix d a) 1)))) else none) else (Option.map Sum.inr (dH (nv b) (0,c))))
def me (a b:List Int):Option (Int):=(dH (nw a b) (0,[]))
def kp (q:fy) (a:Int) (c:List Int):Int->Option (((Int) ⊕ (Int×cD×List Int×List Int))):=λb=>(bif (decide (b<(c.length:Int))) then (bif ((decide ((0:Int)<=b))&&(decide (b<(c.length:Int)))) then (bif (decide ((ix c b)<1)) then ((ig 5 b).bind λh=>(Option.map Sum.inr (some (0,h,[],[])))) else (some (Sum.inl ((i64.wrap (b+1)))))) else none) else (Option.map Sum.inr ((mK q).bind λj=>((me j c).bind λd=>(bif (decide ((0:Int)<=d)) then ((ig 8 d).bind λf=>(some (0,f,[],[]))) else (bif ((decide (a<1))||(decide ((64:Int)<a))) then ((ig 3 (-1)).bind λg=>(some (0,g,[],[]))) else (bif (a != 0) then ((kD q).bind λe=>(bif ((decide ((0:Int)<=(min (min (min (i64.wrap ((i64.wrap (Int.tdiv (c.length:Int) a))+1)) (c.length:Int)) 128) (i64.wrap ((256:Int)-(q.List.length:Int))))))&&(decide ((min (min (min (i64.wrap ((i64.wrap (Int.tdiv (c.length:Int) a))+1)) (c.length:Int)) 128) (i64.wrap ((256:Int)-(q.List.length:Int))))<=(c.length:Int)))) then (bif (decide ((e++(cut c (0:Int) (min (min (min (i64.wrap ((i64.wrap (Int.tdiv (c.length:Int) a))+1)) (c.length:Int)) 128) (i64.wrap ((256:Int)-(q.List.length:Int)))))).length*8<=140737488355328)) then (bif ((decide ((0:Int)<=(min (min (min (i64.wrap ((i64.wrap (Int.tdiv (c.length:Int) a))+1)) (c.length:Int)) 128) (i64.wrap ((256:Int)-(q.List.length:Int))))))&&(decide ((min (min (min (i64.wrap ((i64.wrap (Int.tdiv (c.length:Int) a))+1)) (c.length:Int)) 128) (i64.wrap ((256:Int)-(q.List.length:Int))))<=(c.length:Int)))) then ((fe (cut c (min (min (min (i64.wrap ((i64.wrap (Int.tdiv (c.length:Int) a))+1)) (c.length:Int)) 128) (i64.wrap ((256:Int)-(q.List.length:Int)))) (c.length:Int))).bind λi=>(some (q.Next,(cD.mk 0 0),(e++(cut c (0:Int) (min (min (min (i64.wrap ((i64.wrap (Int.tdiv (c.length:Int) a))+1)) (c.length:Int)) 128) (i64.wrap ((256:Int)-(q.List.length:Int)))))),i))) else none) else none) else none)) else none)))))))
def je (q:fy) (b:Int) (d:List Int):Option (Int×cD×List Int×List Int):=((kC q).bind λa=>(bif (a.Code != 0) then (some (0,a,[],[])) else (bif (decide ((5000:Int)<(d.length:Int))) then ((ig 2 (-1)).bind λc=>(some (0,c,[],[]))) else (dH (kp q b d) (0)))))
def jf (c f:fy) (l:Bool):Int->Option (((Int) ⊕ (Int×Int×Int×cD×List Int×List Int))):=λd=>(bif (decide (d<((([c,f]:List fy).length:Nat):Int))) then (bif ((decide ((0:Int)<=d))&&(decide (d<((([c,f]:List fy).length:Nat):Int)))) then ((kC (ix ([c,f]:List fy) d)).bind λe=>(bif (e.Code != 0) then (Option.map Sum.inr (some (0,0,0,e,[],[]))) else (some (Sum.inl ((i64.wrap (d+1))))))) else none) else (Option.map Sum.inr ((mK c).bind λj=>((mK f).bind λi=>((me j i).bind λh=>(bif (decide ((0:Int)<=h)) then ((ig 8 0).bind λg=>(some (0,0,0,g,[],[]))) else ((kD c).bind λa=>((kD f).bind λb=>(bif ((a.length:Int)==0) then (bif ((!l)||((c.Next==0)||((i64.wrap ((256:Int)-(b.length:Int)))==0))) then (some (c.Next,f.Next,0,(cD.mk 0 0),a,b)) else (bif (decide ((b++([c.Next]:List Int)).length*8<=140737488355328)) then (some (0,f.Next,1,(cD.mk 0 0),a,(b++([c.Next]:List Int)))) else none)) else (bif ((decide ((0:Int)<=(min (i64.wrap ((a.length:Int)-(i64.wrap (Int.tdiv (a.length:Int) 2)))) (i64.wrap ((256:Int)-(b.length:Int))))))&&(decide ((min (i64.wrap ((a.length:Int)-(i64.wrap (Int.tdiv (a.length:Int) 2)))) (i64.wrap ((256:Int)-(b.length:Int))))<=(a.length:Int)))) then (bif (decide ((b++(cut a (0:Int) (min (i64.wrap ((a.length:Int)-(i64.wrap (Int.tdiv (a.length:Int) 2)))) (i64.wrap ((256:Int)-(b.length:Int)))))).length*8<=140737488355328)) then (bif ((decide ((0:Int)<=(min (i64.wrap ((a.length:Int)-(i64.wrap (Int.tdiv (a.length:Int) 2)))) (i64.wrap ((256:Int)-(b.length:Int))))))&&(decide ((min (i64.wrap ((a.length:Int)-(i64.wrap (Int.tdiv (a.length:Int) 2)))) (i64.wrap ((256:Int)-(b.length:Int))))<=(a.length:Int)))) then ((fe (cut a (min (i64.wrap ((a.length:Int)-(i64.wrap (Int.tdiv (a.length:Int) 2)))) (i64.wrap ((256:Int)-(b.length:Int)))) (a.length:Int))).bind λk=>(some (c.Next,f.Next,(min (i64.wrap ((a.length:Int)-(i64.wrap (Int.tdiv (a.length:Int) 2)))) (i64.wrap ((256:Int)-(b.length:Int)))),(cD.mk 0 0),k,(b++(cut a (0:Int) (min (i64.wrap ((a.length:Int)-(i64.wrap (Int.tdiv (a.length:Int) 2)))) (i64.wrap ((256:Int)-(b.length:Int))))))))) else none) else none) else none))))))))))
def ny (a c:fy) (b:Bool):Option (Int×Int×Int×cD×List Int×List Int):=(dH (jf a c b) (0))
def ka (p:Int) (e:List Int):Int×(List bV)->Option (((Int×List bV) ⊕ (Bool×List Int×List bV))):=λ(d,a)=>(bif (decide (0<=p/\p<(a.length:Int))) then (bif (decide (d<(a.length:Int))) then (bif ((a.length:Int) != 0) then (bif ((decide ((0:Int)<=(Int.tmod (i64.wrap (p+d)) (a.length:Int))))&&(decide ((Int.tmod (i64.wrap (p+d)) (a.length:Int))<(a.length:Int)))) then ((ny (fy.mk (ix a (Int.tmod (i64.wrap (p+d)) (a.length:Int))).Ring_Next (ix a (Int.tmod (i64.wrap (p+d)) (a.length:Int))).Ring_List) (fy.mk (ix a p).Ring_Next (ix a p).Ring_List) true).bind λb=>(bif (decide ((0:Int)<b.2.2.1)) then ((λz0:List bV=>((λz1:List bV=>((dU p z1).bind λc=>(bif (decide (c.2.length=z1.length)) then (bif (decide (0<=p/\p<(c.2.length:Int))) then (Option.map Sum.inr (some (c.1,e,c.2))) else none) else none))) (z0.set p.toNat ((bV.mk (ix z0 p).now b.2.1 b.2.2.2.2.2):bV)))) (a.set (Int.tmod (i64.wrap (p+d)) (a.length:Int)).toNat ((bV.mk (ix a (Int.tmod (i64.wrap (p+d)) (a.length:Int))).now b.1 b.2.2.2.2.1):bV))) else (some (Sum.inl ((i64.wrap (d+1)),a))))) else none) else none) else (Option.map Sum.inr (some (false,e,a)))) else none)
def gp (p:Int) (e:List bV) (d:List Int):Option (Bool×List Int×List bV):=(bif ((decide ((0:Int)<=p))&&(decide (p<(e.length:Int)))) then ((dU p e).bind λa=>(bif (decide (a.2.length=e.length)) then (bif (decide (0<=p/\p<(a.2.length:Int))) then (bif a.1 then (some (true,d,a.2)) else (bif (decide ((0:Int)<(d.length:Int))) then ((je (fy.mk (ix a.2 p).Ring_Next (ix a.2 p).Ring_List) (a.2.length:Int) d).bind λb=>((λz0:List bV=>((dU p z0).bind λc=>(bif (decide (c.2.length=z0.length)) then (bif (decide (0<=p/\p<(c.2.length:Int))) then (some (c.1,b.2.2.2,c.2)) else none) else none))) (a.2.set p.toNat ((bV.mk (ix a.2 p).now b.1 b.2.2.1):bV)))) else (dH (ka p d) (1,a.2)))) else none) else none)) else none)
def dL (t:Int) (a:List cq):Option (Int):=(bif ((decide ((0:Int)<=(i64.wrap (t-1))))&&(decide ((i64.wrap (t-1))<(a.length:Int)))) then (some ((i64.wrap (t-1)))) else none)
def oP (a:Int):Option (Bool):=(some (((decide ((1:Int)<=a))&&(decide (a<=7)))))
def gF (b:Int) (a:List cq):Option (Int×List cq):=(some ((i64.wrap (b+1)),a))
def mf (c:dg) (d b:Int) (a:List cq):Option (Int×List cq):=(bif (decide (0<=b/\b<(a.length:Int))) then (bif (c.Op==1) then (bif ((decide ((0:Int)<=c.A))&&(decide (c.A<((8:Nat):Int)))) then (gF d (a.set b.toNat ((cq.mk (ix a b).pc ((ix a b).r.set c.A c.B) (ix a b).state (ix a b).when (ix a b).seq):cq))) else none) else (bif (c.Op==2) then (bif ((decide ((0:Int)<=c.B))&&(decide (c.B<((8:Nat):Int)))) then (bif ((decide ((0:Int)<=c.A))&&(decide (c.A<((8:Nat):Int)))) then (gF d (a.set b.toNat ((cq.mk (ix a b).pc ((ix a b).r.set c.A ((ix a b).r.get c.B)) (ix a b).state (ix a b).when (ix a b).seq):cq))) else none) else none) else (bif (c.Op==3) then (bif ((decide ((0:Int)<=c.A))&&(decide (c.A<((8:Nat):Int)))) then (bif ((decide ((0:Int)<=c.B))&&(decide (c.B<((8:Nat):Int)))) then (gF d (a.set b.toNat ((cq.mk (ix a b).pc ((ix a b).r.set c.A (i64.wrap (((ix a b).r.get c.A)+((ix a b).r.get c.B)))) (ix a b).state (ix a b).when (ix a b).seq):cq))) else none) else none) else (bif (c.Op==4) then (bif ((decide ((0:Int)<=c.A))&&(decide (c.A<((8:Nat):Int)))) then (bif ((decide ((0:Int)<=c.B))&&(decide (c.B<((8:Nat):Int)))) then (gF d (a.set b.toNat ((cq.mk (ix a b).pc ((ix a b).r.set c.A (i64.wrap (((ix a b).r.get c.A)-((ix a b).r.get c.B)))) (ix a b).state (ix a b).when (ix a b).seq):cq))) else none) else none) else (bif (c.Op==5) then (bif ((decide ((0:Int)<=c.A))&&(decide (c.A<((8:Nat):Int)))) then (bif ((decide ((0:Int)<=c.B))&&(decide (c.B<((8:Nat):Int)))) then (gF d (a.set b.toNat ((cq.mk (ix a b).pc ((ix a b).r.set c.A (mT [(true,1)] (decide (((ix a b).r.get c.A)<((ix a b).r.get c.B))))) (ix a b).state (ix a b).when (ix a b).seq):cq))) else none) else none) else (bif (c.Op==6) then (some (c.A,a)) else (bif (c.Op==7) then (bif ((decide ((0:Int)<=c.A))&&(decide (c.A<((8:Nat):Int)))) then (bif (((ix a b).r.get c.A)==0) then (some (c.B,a)) else (gF d a)) else none) else (gF d a)))))))) else none)
def dq (t c b a:Int) (d:List cz):Option ((List cz)):=(bif (decide ((d++([(cz.mk t c b a)]:List cz)).length*32<=140737488355328)) then (some ((d++([(cz.mk t c b a)]:List cz)))) else none)
def iX (c t:Int) (b:List cq) (d:List bV) (e:List Int):Option (Bool×List Int×List cq×List bV):=(bif (decide (0<=c/\c<(d.length:Int))) then ((dL t b).bind λa=>(bif (decide (0<=a/\a<(b.length:Int))) then (bif (decide ((e++([t]:List Int)).length*8<=140737488355328)) then (some (false,(e++([t]:List Int)),(b.set a.toNat ((cq.mk (i64.wrap ((ix b a).pc+1)) (ix b a).r (ix b a).state (ix b a).when (ix b a).seq):cq)),(d.set c.toNat ((bV.mk 0 (ix d c).Ring_Next (ix d c).Ring_List):bV)))) else none) else none)) else none)
def iY (s:List Int) (v:Int):Int->Option (((Int) ⊕ (Int))):=λa=>(bif (decide (a<(s.length:Int))) then (bif ((decide ((0:Int)<=a))&&(decide (a<(s.length:Int)))) then (bif (v==(ix s a)) then (Option.map Sum.inr (some (a))) else (some (Sum.inl ((i64.wrap (a+1)))))) else none) else (Option.map Sum.inr (some ((-1)))))
def nA (s:List Int) (v:Int):Option (Int):=(dH (iY s v) (0))
def ie (s:List Int) (v:Int):Option (Bool):=((nA s v).bind λa=>(some ((decide ((0:Int)<=a)))))
def rj (t:Int) (b:List Int):Option ((List Int)×List Int):=(bif (decide ((b.length:Int)<256)) then (bif (decide ((b++([t]:List Int)).length*8<=140737488355328)) then (some ([],(b++([t]:List Int)))) else none) else (bif (decide ((128:Int)<=(b.length:Int))) then ((fe (cut b (0:Int) (128:Int))).bind λa=>(bif (decide ((a++([t]:List Int)).length*8<=140737488355328)) then (bif (decide ((128:Int)<=(b.length:Int))) then ((fe (cut b (128:Int) (b.length:Int))).bind λc=>(some ((a++([t]:List Int)),c))) else none) else none)) else none))
def pj (c a:Int) (d:List Int):Option (Int×cD×List Int×List Int):=((rj c d).bind λb=>(some (a,(cD.mk 0 0),b.2,b.1)))
def qS (q:fy) (a:Int) (g:Bool):Option (Int×cD×List Int×List Int):=((kC q).bind λc=>(bif (c.Code != 0) then (some (0,c,[],[])) else (bif (decide (a<1)) then ((ig 3 (-1)).bind λe=>(some (0,e,[],[]))) else ((mK q).bind λf=>((ie f a).bind λh=>(bif h then ((ig 10 (-1)).bind λd=>(some (0,d,[],[]))) else ((kD q).bind λb=>(bif g then (bif (q.Next==0) then (some (a,(cD.mk 0 0),b,[])) else (pj q.Next a b)) else (pj a q.Next b)))))))))
def iZ (d t:Int) (c:List cq) (e:List bV) (f:List Int):Option ((List Int)×List cq×List bV):=(bif (decide (0<=d/\d<(e.length:Int))) then ((qS (fy.mk (ix e d).Ring_Next (ix e d).Ring_List) t true).bind λb=>(bif (decide ((f++b.2.2.2).length*8<=140737488355328)) then ((dL t c).bind λa=>(bif (decide (0<=a/\a<(c.length:Int))) then (some ((f++b.2.2.2),(c.set a.toNat ((cq.mk (ix c a).pc (ix c a).r 0 (ix c a).when (ix c a).seq):cq)),(e.set d.toNat ((bV.mk (ix e d).now b.1 b.2.2.1):bV)))) else none)) else none)) else none)
def jg (a b:Int):Option (cD):=(some ((cD.mk a b)))
def pA (l:List cI):Int×(List (Int×Int))->Option (((Int×(List (Int×Int))) ⊕ (Int×(List (Int×Int))))):=λ(a,b)=>(bif (decide (a<(l.length:Int))) then (bif ((decide ((0:Int)<=a))&&(decide (a<(l.length:Int)))) then (bif ((decide ((ix l a).Task<1))||(decide ((ix l a).Case<0))) then (Option.map Sum.inr (some (3,b))) else (bif (decide ((0:Int)<(fV b (ix l a).Task))) then (Option.map Sum.inr (some (10,b))) else (some (Sum.inl ((i64.wrap (a+1)),(iu b (ix l a).Task 1)))))) else none) else (Option.map Sum.inr (some (0,b))))
def qm (l:List cI) (a:(List (Int×Int))):Option (Int×(List (Int×Int))):=(dH (pA l) (0,a))
def nK (p:cR):Int->Option (((Int) ⊕ (cD))):=λa=>(bif (decide (a<(p.Getters.length:Int))) then (bif ((decide ((0:Int)<=a))&&(decide (a<(p.Getters.length:Int)))) then (bif ((ix p.Getters a).Value != 0) then ((jg 5 2).bind λb=>(Option.map Sum.inr (some (b)))) else (some (Sum.inl ((i64.wrap (a+1)))))) else none) else (Option.map Sum.inr (some ((cD.mk 0 0)))))
def oQ (p:cR):Option (cD):=(bif (decide ((5000:Int)<(i64.wrap ((i64.wrap ((p.Items.length:Int)+(p.Senders.length:Int)))+(p.Getters.length:Int))))) then ((jg 2 0).bind λe=>(some (e))) else (bif ((decide (p.Cap<0))||(decide ((1000:Int)<p.Cap))) then ((jg 3 0).bind λc=>(some (c))) else (bif (decide (p.Cap<(p.Items.length:Int))) then ((jg 8 0).bind λg=>(some (g))) else (bif (bif (decide ((0:Int)<(p.Senders.length:Int))) then (p.Closed||((decide ((p.Items.length:Int)<p.Cap))||((decide ((0:Int)<(p.Getters.length:Int)))||((decide ((0:Int)<(p.Getters.length:Int)))&&(p.Closed||(decide ((0:Int)<(p.Items.length:Int)))))))) else ((decide ((0:Int)<(p.Getters.length:Int)))&&(p.Closed||(decide ((0:Int)<(p.Items.length:Int)))))) then ((jg 5 0).bind λf=>(some (f))) else ((qm p.Senders []).bind λa=>(bif (a.1 != 0) then ((jg a.1 1).bind λh=>(some (h))) else ((qm p.Getters a.2).bind λb=>(bif (b.1 != 0) then ((jg b.1 2).bind λd=>(some (d))) else (dH (nK p) (0))))))))))
def qn (x:cI) (a:Int):Option (Bool):=(some ((x.Task==a)))
def iA (s:List cI) (f:Int):Int->Option (((Int) ⊕ (Int))):=λa=>(bif (decide (a<(s.length:Int))) then (bif ((decide ((0:Int)<=a))&&(decide (a<(s.length:Int)))) then ((qn (ix s a) f).bind λb=>(bif b then (Option.map Sum.inr (some (a))) else (some (Sum.inl ((i64.wrap (a+1))))))) else none) else (Option.map Sum.inr (some ((-1)))))
def kT (s:List cI) (f:Int):Option (Int):=(dH (iA s f) (0))
def gJ (s:List cI) (f:Int):Option (Bool):=((kT s f).bind λa=>(some ((decide ((0:Int)<=a)))))
def nL (a:Bool):Option (Bool):=(some (a))
def sj (p:cR) (a:Int):Option (Bool):=((gJ p.Senders a).bind λc=>(bif c then (nL true) else ((gJ p.Getters a).bind λb=>(nL b))))
def oR (p:cR) (b:Int):Option (cD):=((oQ p).bind λa=>(bif (a.Code != 0) then (some (a)) else (bif (decide (b<1)) then ((jg 3 (-1)).bind λd=>(some (d))) else ((sj p b).bind λc=>(bif c then ((jg 10 (-1)).bind λe=>(some (e))) else (bif ((i64.wrap ((i64.wrap ((p.Items.length:Int)+(p.Senders.length:Int)))+(p.Getters.length:Int)))==5000) then ((jg 9 0).bind λf=>(some (f))) else (some ((cD.mk 0 0)))))))))
def j5 (s:List cI):Option ((List cI)):=(bif (decide ((([]:List cI)++s).length*24<=140737488355328)) then (some ((([]:List cI)++s))) else none)
def oA (p:cR):Option ((List Int)×List cI×List cI):=((fe p.Items).bind λa=>((j5 p.Senders).bind λc=>((j5 p.Getters).bind λb=>(some (a,c,b)))))
def sk (x:cI) (c:Int) (a:Bool) (d:List Int) (b:List cI):Option (Bool×Bool×Int×List dc×List Int×List cI):=(bif a then (some (true,true,x.Case,[],d,b)) else (bif (decide ((0:Int)<(b.length:Int))) then (bif (decide ((0:Int)<(b.length:Int))) then (bif (decide ((1:Int)<=(b.length:Int))) then (some (true,false,x.Case,([(dc.mk (ix b (0:Int)).Task (ix b (0:Int)).Case x.Value true false)]:List dc),d,(cut b (1:Int) (b.length:Int)))) else none) else none) else (bif (decide ((d.length:Int)<c)) then (bif (decide ((d++([x.Value]:List Int)).length*8<=140737488355328)) then (some (true,false,x.Case,[],(d++([x.Value]:List Int)),b)) else none) else (some (false,false,0,[],d,b)))))
def oB (p:cR) (c a:Bool) (b:Int) (d:List Int) (g f:List cI) (e:List dc):Option (Int×Bool×Bool×Bool×Int×cD×List Int×List cI×List cI×List dc):=(some (p.Cap,p.Closed,c,a,b,(cD.mk 0 0),d,g,f,e))
def mA (p:cR) (c d:Int) (f:Bool):Option (Int×Bool×Bool×Bool×Int×cD×List Int×List cI×List cI×List dc):=((oR p c).bind λe=>(bif (e.Code != 0) then (some (0,false,false,false,0,e,[],[],[],[])) else ((oA p).bind λb=>((sk (cI.mk c 0 d) p.Cap p.Closed b.1 b.2.2).bind λa=>(bif ((!a.1)&&(!f)) then (bif (decide ((b.2.1++([(cI.mk c 0 d)]:List cI)).length*24<=140737488355328)) then (oB p a.1 a.2.1 a.2.2.1 a.2.2.2.2.1 (b.2.1++([(cI.mk c 0 d)]:List cI)) a.2.2.2.2.2 a.2.2.2.1) else none) else (oB p a.1 a.2.1 a.2.2.1 a.2.2.2.2.1 b.2.1 a.2.2.2.2.2 a.2.2.2.1))))))
def dI (t b:Int) (c:List cz):Option ((List cz)):=((dq t 22 b 0 c).bind λa=>(some (a)))
def fZ (t:Int) (b:List cq):Option (Bool×List cq):=((dL t b).bind λa=>(bif (decide (0<=a/\a<(b.length:Int))) then (some (false,(b.set a.toNat ((cq.mk (ix b a).pc (ix b a).r 1 (ix b a).when (ix b a).seq):cq)))) else none))
def gD (t:Int) (d:dg) (c:Int) (g:Bool) (f:List cz) (b:List cq):Option ((List cz)×List cq):=((dL t b).bind λa=>(bif (decide (0<=a/\a<(b.length:Int))) then (bif ((decide ((0:Int)<=d.A))&&(decide (d.A<((8:Nat):Int)))) then ((dq t 15 d.B c f).bind λe=>((λz0:List cq=>(some (e,(z0.set a.toNat ((cq.mk (ix z0 a).pc ((ix z0 a).r.set (7:Int) (mT [(true,1)] g)) (ix z0 a).state (ix z0 a).when (ix z0 a).seq):cq))))) (b.set a.toNat ((cq.mk (ix b a).pc ((ix b a).r.set d.A c) (ix b a).state (ix b a).when (ix b a).seq):cq)))) else none) else none))
def fW (d t:Int) (c:List cq) (e:List bV) (f:List Int):Option ((List Int)×List cq×List bV):=(bif (decide (0<=d/\d<(e.length:Int))) then ((dL t c).bind λa=>(bif (decide (0<=a/\a<(c.length:Int))) then ((iZ d t (c.set a.toNat ((cq.mk (i64.wrap ((ix c a).pc+1)) (ix c a).r (ix c a).state (ix c a).when (ix c a).seq):cq)) e f).bind λb=>(bif (decide (0<=d/\d<(b.2.2.length:Int))) then (some (b.1,b.2.1,b.2.2)) else none)) else none)) else none)
def hU (g:Int) (l:List dc) (b:Int) (d:List bV) (e:List Int) (f:List cq) (c:List cz):Option (((Int×List cq×List bV×List cz×List Int) ⊕ (Int×List cz×List Int×List cq×List bV))):=(bif (decide (0<=g/\g<(d.length:Int))) then ((fW g (ix l b).Task f d e).bind λa=>(bif (decide (0<=g/\g<(a.2.2.length:Int))) then (some (Sum.inl ((i64.wrap (b+1)),a.2.1,a.2.2,c,a.1))) else none)) else none)
def eY (n p:Int) (l:List dc) (a:List dg) (e:Int):Int×List cq×List bV×List cz×(List Int)->Option (((Int×List cq×List bV×List cz×List Int) ⊕ (Int×List cz×List Int×List cq×List bV))):=λ(c,b,h,g,f)=>(bif (decide (0<=n/\n<(h.length:Int))) then (bif (decide (c<(l.length:Int))) then (bif ((decide ((0:Int)<=c))&&(decide (c<(l.length:Int)))) then ((dL (ix l c).Task b).bind λd=>(bif (decide (0<=d/\d<(b.length:Int))) then (bif ((decide ((0:Int)<=(ix b d).pc))&&(decide ((ix b d).pc<(a.length:Int)))) then (bif (ix l c).Panic then ((dI (ix l c).Task p g).bind λm=>(Option.map Sum.inr (some (2,m,f,b,h)))) else (bif ((ix a (ix b d).pc).Op==14) then ((dL (ix l c).Task b).bind λi=>(bif (decide (0<=i/\i<(b.length:Int))) then (bif ((decide ((0:Int)<=(ix a (ix b d).pc).B))&&(decide ((ix a (ix b d).pc).B<((8:Nat):Int)))) then ((dq (ix l c).Task (ix a (ix b d).pc).Op p ((ix b i).r.get (ix a (ix b d).pc).B) g).bind λk=>(hU n l c h f b k)) else none) else none)) else ((gD (ix l c).Task (ix a (ix b d).pc) (ix l c).Value (ix l c).Ok g b).bind λj=>(hU n l c h f j.2 j.1)))) else none) else none)) else none) else (Option.map Sum.inr (some (e,g,f,b,h)))) else none)
def dF (c p:Int) (l:List dc) (b:List dg) (a:Int) (f:List cz) (g:List cq) (d:List bV) (e:List Int):Option (Int×List cz×List Int×List cq×List bV):=(bif (decide (0<=c/\c<(d.length:Int))) then (dH (eY c p l b a) (0,g,d,f,e)) else none)
def lf (x:cI) (b:Bool) (a:List Int) (c:List cI) (d:List dc):Option (Bool×Bool×Int×Int×List dc×List Int×List cI):=(bif (decide ((0:Int)<(a.length:Int))) then (bif (decide ((0:Int)<(a.length:Int))) then (bif (decide ((1:Int)<=(a.length:Int))) then (some (true,true,(ix a (0:Int)),x.Case,d,(cut a (1:Int) (a.length:Int)),c)) else none) else none) else (bif b then (some (true,false,0,x.Case,[],a,c)) else (some (false,false,0,0,[],a,c))))
def sm (x:cI) (a:Bool) (c:List Int) (b:List cI):Option (Bool×Bool×Int×Int×List dc×List Int×List cI):=(bif (decide ((0:Int)<(b.length:Int))) then (bif (decide ((0:Int)<(b.length:Int))) then (bif (decide ((1:Int)<=(b.length:Int))) then (bif (decide ((c++([(ix b (0:Int)).Value]:List Int)).length*8<=140737488355328)) then (lf x a (c++([(ix b (0:Int)).Value]:List Int)) (cut b (1:Int) (b.length:Int)) ([(dc.mk (ix b (0:Int)).Task (ix b (0:Int)).Case 0 false false)]:List dc)) else none) else none) else none) else (lf x a c b []))
def pk (p:cR) (c d:Bool) (a b:Int) (g:List Int) (h f:List cI) (e:List dc):Option (Int×Bool×Bool×Bool×Int×Int×cD×List Int×List cI×List cI×List dc):=(some (p.Cap,p.Closed,c,d,a,b,(cD.mk 0 0),g,h,f,e))
def lS (p:cR) (c:Int) (e:Bool):Option (Int×Bool×Bool×Bool×Int×Int×cD×List Int×List cI×List cI×List dc):=((oR p c).bind λd=>(bif (d.Code != 0) then (some (0,false,false,false,0,0,d,[],[],[],[])) else ((oA p).bind λb=>((sm (cI.mk c 0 0) p.Closed b.1 b.2.1).bind λa=>(bif ((!a.1)&&(!e)) then (bif (decide ((b.2.2++([(cI.mk c 0 0)]:List cI)).length*24<=140737488355328)) then (pk p a.1 a.2.1 a.2.2.1 a.2.2.2.1 a.2.2.2.2.2.1 a.2.2.2.2.2.2 (b.2.2++([(cI.mk c 0 0)]:List cI)) a.2.2.2.2.1) else none) else (pk p a.1 a.2.1 a.2.2.1 a.2.2.2.1 a.2.2.2.2.2.1 a.2.2.2.2.2.2 b.2.2 a.2.2.2.2.1))))))
def m4 (c:List cI):Int×(List dc)->Option (((Int×List dc) ⊕ (Bool×List dc×Bool×List cI×List cI))):=λ(a,b)=>(bif (decide (a<(c.length:Int))) then (bif ((decide ((0:Int)<=a))&&(decide (a<(c.length:Int)))) then (bif (decide ((b++([(dc.mk (ix c a).Task (ix c a).Case 0 false true)]:List dc)).length*32<=140737488355328)) then (some (Sum.inl ((i64.wrap (a+1)),(b++([(dc.mk (ix c a).Task (ix c a).Case 0 false true)]:List dc))))) else none) else none) else (Option.map Sum.inr (some (false,b,true,[],[]))))
def m5 (d c:List cI):Int×(List dc)->Option (((Int×List dc) ⊕ (Bool×List dc×Bool×List cI×List cI))):=λ(a,b)=>(bif (decide (a<(c.length:Int))) then (bif ((decide ((0:Int)<=a))&&(decide (a<(c.length:Int)))) then (bif (decide ((b++([(dc.mk (ix c a).Task (ix c a).Case 0 false false)]:List dc)).length*32<=140737488355328)) then (some (Sum.inl ((i64.wrap (a+1)),(b++([(dc.mk (ix c a).Task (ix c a).Case 0 false false)]:List dc))))) else none) else none) else (Option.map Sum.inr (dH (m4 d) (0,b))))
def rm (a:Bool) (c b:List cI):Option (Bool×List dc×Bool×List cI×List cI):=(bif a then (some (true,[],a,c,b)) else (dH (m5 c b) (0,[])))
def oC (p:cR):Option (Int×Bool×Bool×Bool×cD×List Int×List cI×List cI×List dc):=((oQ p).bind λc=>(bif (c.Code != 0) then (some (0,false,false,false,c,[],[],[],[])) else ((oA p).bind λb=>((rm p.Closed b.2.1 b.2.2).bind λa=>(some (p.Cap,a.2.2.1,true,a.1,(cD.mk 0 0),b.1,a.2.2.2.1,a.2.2.2.2,a.2.1))))))
def d5 (a:Int) (b:List cz) (c:List Int) (f:List cq) (e:List bV) (d:List cR):Option (Bool×Int×List cz×List Int×List cq×List bV×List cR):=(some (true,a,b,c,f,e,d))
def eZ (l t:Int) (j:dg) (c:List dg) (m:List cR) (a:Int) (k:List cq) (f:List bV) (h:List cR) (e:li) (i:List cz) (g:List Int):Option (Bool×Int×List cz×List Int×List cq×List bV×List cR):=(bif (decide (0<=l/\l<(f.length:Int))) then ((gD t j e.Value e.Ok i k).bind λd=>(bif (decide ((0:Int)<(((ix m j.B).Items.length:Nat):Int))) then ((dF l j.B e.Wakes c a d.1 d.2 f g).bind λb=>(bif (decide (0<=l/\l<(b.2.2.2.2.length:Int))) then (d5 b.1 b.2.1 b.2.2.1 b.2.2.2.1 b.2.2.2.2 h) else none)) else (d5 a d.1 g d.2 f h))) else none)
def eC (m t:Int) (c:dg) (d:List dg) (a:Int) (q:List cz) (n:List cq) (p:List bV) (s:List Int) (k:List cR):Option (Bool×Int×List cz×List Int×List cq×List bV×List cR):=(bif (decide (0<=m/\m<(p.length:Int))) then ((dL t n).bind λg=>(bif (decide (0<=g/\g<(n.length:Int))) then (bif (c.Op==14) then (bif ((decide ((0:Int)<=c.A))&&(decide (c.A<(k.length:Int)))) then (bif ((decide ((0:Int)<=c.B))&&(decide (c.B<((8:Nat):Int)))) then ((mA (ix k c.A) t ((ix n g).r.get c.B) false).bind λe=>(bif ((decide ((0:Int)<=c.A))&&(decide (c.A<(k.length:Int)))) then ((λz1:List cR=>(bif e.2.2.2.1 then ((dI t c.A q).bind λx=>(some (false,2,x,s,n,p,z1))) else (bif (!e.2.2.1) then ((fZ t n).bind λl=>(bif (decide (0<=g/\g<(l.2.length:Int))) then (some (l.1,a,q,s,l.2,p,z1)) else none)) else ((dq t c.Op c.A ((ix n g).r.get c.B) q).bind λu=>((dF m c.A e.2.2.2.2.2.2.2.2.2 d a u n p s).bind λi=>(bif (decide (0<=m/\m<(i.2.2.2.2.length:Int))) then (d5 i.1 i.2.1 i.2.2.1 i.2.2.2.1 i.2.2.2.2 z1) else none)))))) (k.set c.A.toNat ((cR.mk e.1 e.2.2.2.2.2.2.1 e.2.1 e.2.2.2.2.2.2.2.1 e.2.2.2.2.2.2.2.2.1):cR))) else none)) else none) else none) else (bif (c.Op==15) then (bif ((decide ((0:Int)<=c.B))&&(decide (c.B<(k.length:Int)))) then (bif ((decide ((0:Int)<=c.B))&&(decide (c.B<(k.length:Int)))) then ((lS (ix k c.B) t false).bind λb=>(bif ((decide ((0:Int)<=c.B))&&(decide (c.B<(k.length:Int)))) then ((λz0:List cR=>(bif (!b.2.2.1) then ((fZ t n).bind λo=>(some (o.1,a,q,s,o.2,p,z0))) else (bif (!(decide ((0:Int)<(((ix k c.B).Items.length:Nat):Int)))) then ((dF m c.B b.2.2.2.2.2.2.2.2.2.2 d a q n p s).bind λj=>(bif (decide (0<=m/\m<(j.2.2.2.2.length:Int))) then (eZ m t c d k j.1 j.2.2.2.1 j.2.2.2.2 z0 (li.mk b.2.2.1 false b.2.2.2.1 b.2.2.2.2.1 b.2.2.2.2.2.1 b.2.2.2.2.2.2.2.2.2.2) j.2.1 j.2.2.1) else none)) else (eZ m t c d k a n p z0 (li.mk b.2.2.1 false b.2.2.2.1 b.2.2.2.2.1 b.2.2.2.2.2.1 b.2.2.2.2.2.2.2.2.2.2) q s)))) (k.set c.B.toNat ((cR.mk b.1 b.2.2.2.2.2.2.2.1 b.2.1 b.2.2.2.2.2.2.2.2.1 b.2.2.2.2.2.2.2.2.2.1):cR))) else none)) else none) else none) else (bif (c.Op==16) then (bif ((decide ((0:Int)<=c.A))&&(decide (c.A<(k.length:Int)))) then ((oC (ix k c.A)).bind λf=>(bif ((decide ((0:Int)<=c.A))&&(decide (c.A<(k.length:Int)))) then ((λz2:List cR=>(bif f.2.2.2.1 then ((dI t c.A q).bind λw=>(some (false,2,w,s,n,p,z2))) else ((dq t c.Op c.A 0 q).bind λv=>((dF m c.A f.2.2.2.2.2.2.2.2 d a v n p s).bind λh=>(bif (decide (0<=m/\m<(h.2.2.2.2.length:Int))) then (d5 h.1 h.2.1 h.2.2.1 h.2.2.2.1 h.2.2.2.2 z2) else none))))) (k.set c.A.toNat ((cR.mk f.1 f.2.2.2.2.2.1 f.2.1 f.2.2.2.2.2.2.1 f.2.2.2.2.2.2.2.1):cR))) else none)) else none) else (d5 a q s n p k)))) else none)) else none)
def jT (a b:Int):Option (cD):=(some ((cD.mk a b)))
def nM (l:di):Int×(List (Int×Int))->Option (((Int×(List (Int×Int))) ⊕ (cD))):=λ(a,b)=>(bif (decide (a<(l.Line.length:Int))) then (bif ((decide ((0:Int)<=a))&&(decide (a<(l.Line.length:Int)))) then (bif (decide ((ix l.Line a).Task<1)) then ((jT 3 (i64.wrap (a+1))).bind λc=>(Option.map Sum.inr (some (c)))) else (bif (decide ((0:Int)<(fV b (ix l.Line a).Task))) then ((jT 10 (i64.wrap (a+1))).bind λd=>(Option.map Sum.inr (some (d)))) else (bif ((ix l.Line a).N != 0) then ((jT 5 (i64.wrap (a+1))).bind λe=>(Option.map Sum.inr (some (e)))) else (some (Sum.inl ((i64.wrap (a+1)),(iu b (ix l.Line a).Task 1))))))) else none) else (Option.map Sum.inr (some ((cD.mk 0 0)))))
def oS (l:di):Option (cD):=(bif (decide ((5000:Int)<(l.Line.length:Int))) then ((jT 2 0).bind λc=>(some (c))) else (bif ((decide (l.Readers<0))||(decide ((1000000000:Int)<l.Readers))) then ((jT 3 0).bind λb=>(some (b))) else (bif ((!((((l.Writer&&(!(decide ((0:Int)<l.Readers))))&&(decide ((0:Int)<(l.Line.length:Int))))&&(!l.Writer))&&(!(l.Readers==0))))||(decide ((0:Int)<(l.Line.length:Int)))) then (bif ((!((((!l.Writer)&&(decide ((0:Int)<(l.Line.length:Int))))&&(!l.Writer))&&(!(l.Readers==0))))||(decide ((0:Int)<(l.Line.length:Int)))) then (bif (bif l.Writer then ((decide ((0:Int)<l.Readers))||((decide ((0:Int)<(l.Line.length:Int)))&&((!l.Writer)&&((l.Readers==0)||(!(ix l.Line (0:Int)).Write))))) else ((decide ((0:Int)<(l.Line.length:Int)))&&((!l.Writer)&&((l.Readers==0)||(!(ix l.Line (0:Int)).Write))))) then ((jT 5 0).bind λa=>(some (a))) else (dH (nM l) (0,[]))) else none) else none)))
def qo (w:dR) (a:Int):Option (Bool):=(some ((w.Task==a)))
def iB (s:List dR) (f:Int):Int->Option (((Int) ⊕ (Int))):=λa=>(bif (decide (a<(s.length:Int))) then (bif ((decide ((0:Int)<=a))&&(decide (a<(s.length:Int)))) then ((qo (ix s a) f).bind λb=>(bif b then (Option.map Sum.inr (some (a))) else (some (Sum.inl ((i64.wrap (a+1))))))) else none) else (Option.map Sum.inr (some ((-1)))))
def kU (s:List dR) (f:Int):Option (Int):=(dH (iB s f) (0))
def iC (s:List dR) (f:Int):Option (Bool):=((kU s f).bind λa=>(some ((decide ((0:Int)<=a)))))
def mU (s:List dR):Option ((List dR)):=(bif (decide ((([]:List dR)++s).length*24<=140737488355328)) then (some ((([]:List dR)++s))) else none)
def lD (l:di):Option ((List dR)):=((mU l.Line).bind λa=>(some (a)))
def n8 (c:List Int) (a:Int) (b:Bool) (d:List dR):Option ((List Int)×Int×Bool×List dR):=(some (c,a,b,d))
def jU:Int×Bool×List Int×(List dR)->Option (((Int×Bool×List Int×List dR) ⊕ ((List Int)×Int×Bool×List dR))):=λ(b,c,d,a)=>(bif ((decide ((0:Int)<(a.length:Int)))&&(!c)) then (bif (decide ((0:Int)<(a.length:Int))) then (bif ((ix a (0:Int)).Write&&(decide ((0:Int)<b))) then (Option.map Sum.inr (n8 d b c a)) else (bif (decide ((1:Int)<=(a.length:Int))) then (bif (decide ((d++([(ix a (0:Int)).Task]:List Int)).length*8<=140737488355328)) then (bif (!(ix a (0:Int)).Write) then (some (Sum.inl ((i64.wrap (b+1)),(ix a (0:Int)).Write,(d++([(ix a (0:Int)).Task]:List Int)),(cut a (1:Int) (a.length:Int))))) else (some (Sum.inl (b,(ix a (0:Int)).Write,(d++([(ix a (0:Int)).Task]:List Int)),(cut a (1:Int) (a.length:Int)))))) else none) else none)) else none) else (Option.map Sum.inr (n8 d b c a)))
def kM (a:Int) (b:Bool) (c:List dR):Option ((List Int)×Int×Bool×List dR):=(dH jU (a,b,[],c))
def mB (l:di) (b:Int) (d m:Bool):Option (Int×Bool×Bool×cD×List dR):=((oS l).bind λc=>(bif (c.Code != 0) then (some (0,false,false,c,[])) else (bif (decide (b<1)) then ((jT 3 (-1)).bind λk=>(some (0,false,false,k,[]))) else ((iC l.Line b).bind λf=>(bif f then ((jT 10 (-1)).bind λh=>(some (0,false,false,h,[]))) else (bif (((l.Line.length:Int)==5000)||(l.Readers==1000000000)) then ((jT 9 0).bind λj=>(some (0,false,false,j,[]))) else ((lD l).bind λe=>(bif (decide ((e++([(dR.mk b d 0)]:List dR)).length*24<=140737488355328)) then ((kM l.Readers l.Writer (e++([(dR.mk b d 0)]:List dR))).bind λa=>((ie a.1 b).bind λg=>(bif g then (some (a.2.1,a.2.2.1,true,(cD.mk 0 0),a.2.2.2)) else (bif m then ((lD l).bind λi=>(some (l.Readers,l.Writer,false,(cD.mk 0 0),i))) else (some (a.2.1,a.2.2.1,false,(cD.mk 0 0),a.2.2.2)))))) else none))))))))
def nN (a:Int) (c:Bool) (d:List dR):Option (Int×Bool×Bool×cD×List dR×List Int):=((kM a c d).bind λb=>(some (b.2.1,b.2.2.1,false,(cD.mk 0 0),b.2.2.2,b.1)))
def nB (l:di) (a:Bool):Option (Int×Bool×Bool×cD×List dR×List Int):=((oS l).bind λc=>(bif (c.Code != 0) then (some (0,false,false,c,[],[])) else (bif (bif a then ((!l.Writer)||((!a)&&(l.Readers==0))) else ((!a)&&(l.Readers==0))) then ((lD l).bind λd=>(some (l.Readers,l.Writer,true,(cD.mk 0 0),d,[]))) else ((lD l).bind λb=>(bif a then (nN l.Readers false b) else (nN (i64.wrap (l.Readers-1)) l.Writer b))))))
def jh (a b:Int):Option (cD):=(some ((cD.mk a b)))
def qp (l:List Int):Int×(List (Int×Int))->Option (((Int×(List (Int×Int))) ⊕ (cD))):=λ(a,b)=>(bif (decide (a<(l.length:Int))) then (bif ((decide ((0:Int)<=a))&&(decide (a<(l.length:Int)))) then (bif (decide ((ix l a)<1)) then ((jh 3 (i64.wrap (a+1))).bind λc=>(Option.map Sum.inr (some (c)))) else (bif (decide ((0:Int)<(fV b (ix l a)))) then ((jh 10 (i64.wrap (a+1))).bind λd=>(Option.map Sum.inr (some (d)))) else (some (Sum.inl ((i64.wrap (a+1)),(iu b (ix l a) 1)))))) else none) else (Option.map Sum.inr (some ((cD.mk 0 0)))))
def rL (l:List Int):Option (cD):=(bif (decide ((5000:Int)<(l.length:Int))) then ((jh 2 0).bind λa=>(some (a))) else (dH (qp l) (0,[])))
def oT (g:cX):Option (cD):=((rL g.Line).bind λa=>(bif (a.Code != 0) then (some (a)) else (bif ((decide (g.Count<0))||(decide ((1000000000:Int)<g.Count))) then ((jh 3 0).bind λc=>(some (c))) else (bif ((g.Count==0)&&(decide ((0:Int)<(g.Line.length:Int)))) then ((jh 5 0).bind λb=>(some (b))) else (some ((cD.mk 0 0)))))))
def nC (g:cX) (n:Int):Option (Int×Bool×cD×List Int×List Int):=((oT g).bind λb=>(bif (b.Code != 0) then (some (0,false,b,[],[])) else (bif ((decide (n<(-1000000000)))||(decide ((1000000000:Int)<n))) then ((jh 3 (-1)).bind λc=>(some (0,false,c,[],[]))) else ((fe g.Line).bind λa=>(bif (decide ((i64.wrap (g.Count+n))<0)) then (some (g.Count,true,(cD.mk 0 0),a,[])) else (bif (decide ((1000000000:Int)<(i64.wrap (g.Count+n)))) then ((jh 9 0).bind λd=>(some (0,false,d,[],[]))) else (bif ((i64.wrap (g.Count+n))==0) then (some (0,false,(cD.mk 0 0),[],a)) else (some ((i64.wrap (g.Count+n)),false,(cD.mk 0 0),a,[])))))))))
def qq (l:List Int) (a:Int):Option (cD):=(bif (decide (a<1)) then ((jh 3 (-1)).bind λc=>(some (c))) else ((ie l a).bind λe=>(bif e then ((jh 10 (-1)).bind λd=>(some (d))) else (bif ((l.length:Int)==5000) then ((jh 9 0).bind λb=>(some (b))) else (some ((cD.mk 0 0)))))))
def mg (g:cX) (a:List Int):Option (Int×Bool×cD×List Int):=(some (g.Count,(g.Count==0),(cD.mk 0 0),a))
def nO (g:cX) (b:Int) (c:cD):Option (Int×Bool×cD×List Int):=(bif (c.Code != 0) then (some (0,false,c,[])) else ((fe g.Line).bind λa=>(bif (decide ((0:Int)<g.Count)) then (bif (decide ((a++([b]:List Int)).length*8<=140737488355328)) then (mg g (a++([b]:List Int))) else none) else (mg g a))))
def nD (g:cX) (a:Int):Option (Int×Bool×cD×List Int):=((oT g).bind λb=>(bif (b.Code==0) then ((qq g.Line a).bind λc=>(nO g a c)) else (nO g a b)))
def fo (a:Int) (f:List cz) (c:List Int) (e:List cq) (g:List bV) (d:List di) (b:List cX):Option (Bool×Int×List cz×List Int×List cq×List bV×List di×List cX):=(some (true,a,f,c,e,g,d,b))
def hX (n:Int) (p:dg) (a:List dg) (e:Int) (o:List cX):Int×Int×List cq×List bV×List di×List Int×List cz×(List Int)->Option (((Int×Int×List cq×List bV×List di×List Int×List cz×List Int) ⊕ (Bool×Int×List cz×List Int×List cq×List bV×List di×List cX))):=λ(h,b,c,i,k,d,j,l)=>(bif (decide (0<=n/\n<(i.length:Int))) then (bif (decide (b<h)) then (bif ((decide ((0:Int)<=b))&&(decide (b<(d.length:Int)))) then ((dL (ix d b) c).bind λf=>(bif (decide (0<=f/\f<(c.length:Int))) then (bif ((decide ((0:Int)<=(ix c f).pc))&&(decide ((ix c f).pc<(a.length:Int)))) then ((dq (ix d b) 17 p.A (ix a (ix c f).pc).B j).bind λm=>((fW n (ix d b) c i l).bind λg=>(bif (decide (0<=n/\n<(g.2.2.length:Int))) then (some (Sum.inl (h,(i64.wrap (b+1)),g.2.1,g.2.2,k,d,m,g.1))) else none))) else none) else none)) else none) else (Option.map Sum.inr (fo e j l c i k o))) else none)
def hZ (l:Int) (m:dg) (b:Int) (n:List di):Int×Int×List cq×List bV×List cX×List Int×List cz×(List Int)->Option (((Int×Int×List cq×List bV×List cX×List Int×List cz×List Int) ⊕ (Bool×Int×List cz×List Int×List cq×List bV×List di×List cX))):=λ(e,a,j,f,h,c,i,g)=>(bif (decide (0<=l/\l<(f.length:Int))) then (bif (decide (a<e)) then (bif ((decide ((0:Int)<=a))&&(decide (a<(c.length:Int)))) then ((dq (ix c a) 20 m.A 0 i).bind λk=>((fW l (ix c a) j f g).bind λd=>(bif (decide (0<=l/\l<(d.2.2.length:Int))) then (some (Sum.inl (e,(i64.wrap (a+1)),d.2.1,d.2.2,h,c,k,d.1))) else none))) else none) else (Option.map Sum.inr (fo b i g j f n h))) else none)
def eU (y t:Int) (b:dg) (h:List dg) (a:Int) (o:List cz) (k:List cq) (n:List bV) (p:List Int) (d:List di) (f:List cX):Option (Bool×Int×List cz×List Int×List cq×List bV×List di×List cX):=(bif (decide (0<=y/\y<(n.length:Int))) then ((dL t k).bind λj=>(bif (decide (0<=j/\j<(k.length:Int))) then (bif (b.Op==17) then (bif ((decide ((0:Int)<=b.A))&&(decide (b.A<(d.length:Int)))) then ((mB (ix d b.A) t (b.B==1) false).bind λe=>(bif ((decide ((0:Int)<=b.A))&&(decide (b.A<(d.length:Int)))) then ((λz1:List di=>(bif (!e.2.2.1) then ((fZ t k).bind λl=>(some (l.1,a,o,p,l.2,n,z1,f))) else ((dq t b.Op b.A b.B o).bind λv=>(fo a v p k n z1 f)))) (d.set b.A.toNat ((di.mk e.1 e.2.1 e.2.2.2.2):di))) else none)) else none) else (bif (b.Op==18) then (bif ((decide ((0:Int)<=b.A))&&(decide (b.A<(d.length:Int)))) then ((nB (ix d b.A) (b.B==1)).bind λc=>(bif ((decide ((0:Int)<=b.A))&&(decide (b.A<(d.length:Int)))) then ((λz0:List di=>(bif c.2.2.1 then ((dI t b.A o).bind λw=>(some (false,2,w,p,k,n,z0,f))) else ((dq t b.Op b.A b.B o).bind λu=>(dH (hX y b h a f) ((c.2.2.2.2.2.length:Int),0,k,n,z0,c.2.2.2.2.2,u,p))))) (d.set b.A.toNat ((di.mk c.1 c.2.1 c.2.2.2.2.1):di))) else none)) else none) else (bif (b.Op==19) then (bif ((decide ((0:Int)<=b.A))&&(decide (b.A<(f.length:Int)))) then (bif ((decide ((0:Int)<=b.B))&&(decide (b.B<((8:Nat):Int)))) then ((nC (ix f b.A) ((ix k j).r.get b.B)).bind λg=>(bif (g.2.1||(g.2.2.1.Code != 0)) then ((dI t b.A o).bind λs=>(some (false,2,s,p,k,n,d,f))) else (bif ((decide ((0:Int)<=b.A))&&(decide (b.A<(f.length:Int)))) then ((dq t b.Op b.A ((ix k j).r.get b.B) o).bind λq=>(dH (hZ y b a d) ((g.2.2.2.2.length:Int),0,k,n,(f.set b.A.toNat ((cX.mk g.1 g.2.2.2.1):cX)),g.2.2.2.2,q,p))) else none))) else none) else none) else (bif (b.Op==20) then (bif ((decide ((0:Int)<=b.A))&&(decide (b.A<(f.length:Int)))) then ((nD (ix f b.A) t).bind λi=>(bif ((decide ((0:Int)<=b.A))&&(decide (b.A<(f.length:Int)))) then (bif (!i.2.1) then ((fZ t k).bind λm=>(some (m.1,a,o,p,m.2,n,d,(f.set b.A.toNat ((cX.mk i.1 i.2.2.2):cX))))) else ((dq t b.Op b.A 0 o).bind λx=>(fo a x p k n d (f.set b.A.toNat ((cX.mk i.1 i.2.2.2):cX))))) else none)) else none) else (fo a o p k n d f))))) else none)) else none)
def eR (a b:Int) (j:List cR) (i:List di) (h:List cX) (d:List cz) (e:List cq) (c g:List Int) (f:List bV):Option (Bool×Int×Int×List cz×List cq×List Int×List Int×List bV×List cR×List di×List cX):=(some (true,a,b,d,e,c,g,f,j,i,h))
def ju (b:Int) (i:List Int) (h:List bV) (g:List Int) (j:List cR) (f:List di) (e:List cX) (a:Int) (c:List cz) (d:List cq):Option (Bool×Int×Int×List cz×List cq×List Int×List Int×List bV×List cR×List di×List cX):=(some (false,a,b,c,d,g,i,h,j,f,e))
def er (m t:Int) (i:dg) (h:List dg) (d c e:Int) (q:List cz) (u:List Int) (b:List cq) (p:List bV) (s:List Int) (v:List cR) (j:List di) (k:List cX) (a:Int) (l:Bool):Option (Bool×Int×Int×List cz×List cq×List Int×List Int×List bV×List cR×List di×List cX):=(bif (decide (0<=m/\m<(p.length:Int))) then (bif (decide (0<=a/\a<(b.length:Int))) then (bif l then ((eU m t i h d q b p s j k).bind λf=>(bif (decide (0<=m/\m<(f.2.2.2.2.2.1.length:Int))) then (bif (decide (0<=a/\a<(f.2.2.2.2.1.length:Int))) then (some (f.1,f.2.1,e,f.2.2.1,f.2.2.2.2.1,f.2.2.2.1,u,f.2.2.2.2.2.1,v,f.2.2.2.2.2.2.1,f.2.2.2.2.2.2.2)) else none) else none)) else (bif (i.Op==21) then (bif ((decide ((0:Int)<=i.A))&&(decide (i.A<((8:Nat):Int)))) then (bif (decide ((1000000000:Int)<((ix b a).r.get i.A))) then ((dI t 0 q).bind λo=>(some (false,2,e,o,b,s,u,p,v,j,k))) else (bif (decide (((ix b a).r.get i.A)<1)) then ((iX m t b p s).bind λg=>(bif (decide (0<=m/\m<(g.2.2.2.length:Int))) then (bif (decide (0<=a/\a<(g.2.2.1.length:Int))) then (some (g.1,d,e,q,g.2.2.1,g.2.1,u,g.2.2.2,v,j,k)) else none) else none)) else ((λz0:List cq=>((λz1:List cq=>((λz2:List cq=>(some (false,d,(i64.wrap (e+1)),q,(z2.set a.toNat ((cq.mk (ix z2 a).pc (ix z2 a).r (ix z2 a).state (ix z2 a).when (i64.wrap (e+1))):cq)),s,u,p,v,j,k))) (z1.set a.toNat ((cq.mk (ix z1 a).pc (ix z1 a).r (ix z1 a).state (i64.wrap (c+((ix b a).r.get i.A))) (ix z1 a).seq):cq)))) (z0.set a.toNat ((cq.mk (ix z0 a).pc (ix z0 a).r 2 (ix z0 a).when (ix z0 a).seq):cq)))) (b.set a.toNat ((cq.mk (i64.wrap ((ix b a).pc+1)) (ix b a).r (ix b a).state (ix b a).when (ix b a).seq):cq))))) else none) else (bif (i.Op==22) then ((dI t 0 q).bind λn=>(some (false,2,e,n,b,s,u,p,v,j,k))) else (eR d e v j k q b s u p)))) else none) else none)
def fC (k t:Int) (f:dg) (b:List dg) (a c d:Int) (o:List cz) (p:List Int) (m:List cq) (l:List bV) (n:List Int) (q:List cR) (i:List di) (h:List cX) (g:Int) (j:Bool):Option (Bool×Int×Int×List cz×List cq×List Int×List Int×List bV×List cR×List di×List cX):=(bif (decide (0<=k/\k<(l.length:Int))) then (bif (decide (0<=g/\g<(m.length:Int))) then (bif j then ((eC k t f b a o m l n q).bind λe=>(bif (decide (0<=k/\k<(e.2.2.2.2.2.1.length:Int))) then (bif (decide (0<=g/\g<(e.2.2.2.2.1.length:Int))) then (some (e.1,e.2.1,d,e.2.2.1,e.2.2.2.2.1,e.2.2.2.1,p,e.2.2.2.2.2.1,e.2.2.2.2.2.2,i,h)) else none) else none)) else (bif (f.Op==17) then (er k t f b a c d o p m l n q i h g (f.Op==17)) else (bif (f.Op==18) then (er k t f b a c d o p m l n q i h g (f.Op==18)) else (bif (f.Op==19) then (er k t f b a c d o p m l n q i h g (f.Op==19)) else (er k t f b a c d o p m l n q i h g (f.Op==20)))))) else none) else none)
def dC (n t:Int) (c:dg) (e:List dg) (b f d:Int) (s:List cz) (l:List Int) (g:List cq) (m:List bV) (o:List Int) (p:List cR) (i:List di) (j:List cX):Option (Bool×Int×Int×List cz×List cq×List Int×List Int×List bV×List cR×List di×List cX):=(bif (decide (0<=n/\n<(m.length:Int))) then ((dL t g).bind λa=>(bif (decide (0<=a/\a<(g.length:Int))) then (bif (c.Op==8) then (bif ((decide ((0:Int)<=c.A))&&(decide (c.A<((8:Nat):Int)))) then ((dq t c.Op 0 ((ix g a).r.get c.A) s).bind λv=>(eR b d p i j v g o l m)) else none) else (bif (c.Op==9) then ((dq t c.Op 0 0 s).bind λq=>((λz1:List cq=>(bif (t==1) then (ju d l m o p i j 1 q z1) else (ju d l m o p i j b q z1))) (g.set a.toNat ((cq.mk (ix g a).pc (ix g a).r 3 (ix g a).when (ix g a).seq):cq)))) else (bif (c.Op==10) then ((iX n t g m o).bind λh=>(bif (decide (0<=n/\n<(h.2.2.2.length:Int))) then (bif (decide (0<=a/\a<(h.2.2.1.length:Int))) then (some (h.1,b,d,s,h.2.2.1,h.2.1,l,h.2.2.2,p,i,j)) else none) else none)) else (bif (c.Op==11) then (bif ((g.length:Int)==64) then (some (false,4,d,s,g,o,l,m,p,i,j)) else (bif ((decide ((0:Int)<=c.B))&&(decide (c.B<((8:Nat):Int)))) then (bif (decide ((g++[((cq.mk c.A ((default:(dn 8)).set (0:Int) ((ix g a).r.get c.B)) 0 0 0):cq)]).length*8<=140737488355328)) then ((dq t c.Op 0 (((g++[((cq.mk c.A ((default:(dn 8)).set (0:Int) ((ix g a).r.get c.B)) 0 0 0):cq)]).length:Nat):Int) s).bind λw=>((iZ n (((g++[((cq.mk c.A ((default:(dn 8)).set (0:Int) ((ix g a).r.get c.B)) 0 0 0):cq)]).length:Nat):Int) (g++[((cq.mk c.A ((default:(dn 8)).set (0:Int) ((ix g a).r.get c.B)) 0 0 0):cq)]) m o).bind λk=>(bif (decide (0<=n/\n<(k.2.2.length:Int))) then (eR b d p i j w k.2.1 k.1 l k.2.2) else none))) else none) else none)) else (bif (c.Op==12) then (bif ((decide ((0:Int)<=c.B))&&(decide (c.B<(l.length:Int)))) then (bif ((decide ((0:Int)<=c.A))&&(decide (c.A<((8:Nat):Int)))) then ((λz0:List cq=>((dq t c.Op c.B ((ix z0 a).r.get c.A) s).bind λu=>(eR b d p i j u z0 o l m))) (g.set a.toNat ((cq.mk (ix g a).pc ((ix g a).r.set c.A (ix l c.B)) (ix g a).state (ix g a).when (ix g a).seq):cq))) else none) else none) else (bif (c.Op==13) then (bif ((decide ((0:Int)<=c.B))&&(decide (c.B<((8:Nat):Int)))) then (bif ((decide ((0:Int)<=c.A))&&(decide (c.A<(l.length:Int)))) then ((dq t c.Op c.A ((ix g a).r.get c.B) s).bind λx=>(eR b d p i j x g o (l.set c.A.toNat ((ix g a).r.get c.B)) m)) else none) else none) else (bif (c.Op==14) then (fC n t c e b f d s l g m o p i j a (c.Op==14)) else (bif (c.Op==15) then (fC n t c e b f d s l g m o p i j a (c.Op==15)) else (fC n t c e b f d s l g m o p i j a (c.Op==16)))))))))) else none)) else none)
def ep (p:Int) (e:List dg) (o:List cz) (b f g:Int) (q:List Int) (m:List cq) (s:List cR) (n:List di) (l:List cX) (h:List bV) (j:List Int) (c:Int) (i:dg):Option (Int×Int×List cz×List cq×List Int×List Int×List bV×List cR×List di×List cX):=(bif (decide (0<=p/\p<(h.length:Int))) then (bif (decide (0<=c/\c<(m.length:Int))) then ((oP i.Op).bind λk=>(bif k then ((mf i (ix m c).pc c m).bind λd=>(bif (decide (d.2.length=m.length)) then (bif (decide (0<=c/\c<(d.2.length:Int))) then (some (b,g,o,(d.2.set c.toNat ((cq.mk d.1 (ix d.2 c).r (ix d.2 c).state (ix d.2 c).when (ix d.2 c).seq):cq)),j,q,h,s,n,l)) else none) else none)) else ((dC p (ix h p).now i e b f g o q m h j s n l).bind λa=>(bif (decide (0<=p/\p<(a.2.2.2.2.2.2.2.1.length:Int))) then (bif (decide (0<=c/\c<(a.2.2.2.2.1.length:Int))) then (bif a.1 then (some (a.2.1,a.2.2.1,a.2.2.2.1,(a.2.2.2.2.1.set c.toNat ((cq.mk (i64.wrap ((ix a.2.2.2.2.1 c).pc+1)) (ix a.2.2.2.2.1 c).r (ix a.2.2.2.2.1 c).state (ix a.2.2.2.2.1 c).when (ix a.2.2.2.2.1 c).seq):cq)),a.2.2.2.2.2.1,a.2.2.2.2.2.2.1,a.2.2.2.2.2.2.2.1,a.2.2.2.2.2.2.2.2.1,a.2.2.2.2.2.2.2.2.2.1,a.2.2.2.2.2.2.2.2.2.2)) else (bif (((ix a.2.2.2.2.2.2.2.1 p).now==(ix h p).now)&&((ix a.2.2.2.2.1 c).state != 0)) then (some (a.2.1,a.2.2.1,a.2.2.2.1,a.2.2.2.2.1,a.2.2.2.2.2.1,a.2.2.2.2.2.2.1,(a.2.2.2.2.2.2.2.1.set p.toNat ((bV.mk 0 (ix a.2.2.2.2.2.2.2.1 p).Ring_Next (ix a.2.2.2.2.2.2.2.1 p).Ring_List):bV)),a.2.2.2.2.2.2.2.2.1,a.2.2.2.2.2.2.2.2.2.1,a.2.2.2.2.2.2.2.2.2.2)) else (some (a.2.1,a.2.2.1,a.2.2.2.1,a.2.2.2.2.1,a.2.2.2.2.2.1,a.2.2.2.2.2.2.1,a.2.2.2.2.2.2.2.1,a.2.2.2.2.2.2.2.2.1,a.2.2.2.2.2.2.2.2.2.1,a.2.2.2.2.2.2.2.2.2.2)))) else none) else none)))) else none) else none)
def ga (p:Int) (a:List dg) (l:List cz) (b c e:Int) (m:List Int) (h:List cq) (n:List cR) (k:List di) (i:List cX) (j:Bool) (f:List bV) (g:List Int):Option (Int×Int×List cz×List cq×List Int×List Int×List bV×List cR×List di×List cX):=(bif (decide (0<=p/\p<(f.length:Int))) then (bif j then (some (b,e,l,h,g,m,f,n,k,i)) else ((dL (ix f p).now h).bind λd=>(bif (decide (0<=d/\d<(h.length:Int))) then (bif (decide ((ix h d).pc<(a.length:Int))) then (bif ((decide ((0:Int)<=(ix h d).pc))&&(decide ((ix h d).pc<(a.length:Int)))) then (ep p a l b c e m h n k i f g d (ix a (ix h d).pc)) else none) else (ep p a l b c e m h n k i f g d (dg.mk 9 0 0))) else none))) else none)
def gq (p:Int) (b:List dg) (i:Int) (g:List Int) (h f:Int) (n:List cz) (a j c:Int) (t:List Int) (d:Int) (q:List Int) (s:List cq) (m:List bV) (o:List Int) (r:List cR) (k:List di) (l:List cX):Option (Int×Int×List cz×List cq×List Int×List Int×List bV×List cR×List di×List cX):=(bif ((decide ((0:Int)<=p))&&(decide (p<(m.length:Int)))) then (bif ((ix m p).now==0) then ((gp p m o).bind λe=>(bif (decide (0<=p/\p<(e.2.2.length:Int))) then (ga p b n a c d q s r k l (!e.1) e.2.2 e.2.1) else none)) else (ga p b n a c d q s r k l false m o)) else none)
def iN (a:Int) (b:List cq):Option (Bool):=(bif (decide (0<=a/\a<(b.length:Int))) then (some ((((ix b a).state==0)||((ix b a).state==2)))) else none)
def gc (c:List cq):Int->Option (((Int) ⊕ (Int))):=λa=>(bif (decide (a<(c.length:Int))) then (bif ((decide ((0:Int)<=a))&&(decide (a<(c.length:Int)))) then ((iN a c).bind λb=>(bif b then (Option.map Sum.inr (some (a))) else (some (Sum.inl ((i64.wrap (a+1))))))) else none) else (Option.map Sum.inr (some ((-1)))))
def kb (a:List cq):Option (Int):=(dH (gc a) (0))
def ji (b:List cq):Option (Bool):=((kb b).bind λa=>(some ((decide ((0:Int)<=a)))))
def jv (b:List cq):Option (Bool):=((ji b).bind λa=>(some ((!a))))
def nP (b c d:Int) (g:List cz) (h:List Int) (e:List cq):Int×(List Int)->Option (((Int×List Int) ⊕ (Int×Int×Int×cD×List cz×List Int×List Int))):=λ(a,f)=>(bif (decide (a<(e.length:Int))) then (bif ((decide ((0:Int)<=a))&&(decide (a<(e.length:Int)))) then (bif (decide ((f++([(ix e a).state]:List Int)).length*8<=140737488355328)) then (some (Sum.inl ((i64.wrap (a+1)),(f++([(ix e a).state]:List Int))))) else none) else none) else (Option.map Sum.inr (some (b,c,d,(cD.mk 0 0),g,f,h))))
def mh (a b c:Int) (d:List cz) (f g:List Int) (e:List cq):Option (Int×Int×Int×cD×List cz×List Int×List Int):=(dH (nP a b c d g e) (0,f))
def mj (n a:Int) (j:List Int) (b c d:Int) (k:List cz) (g:List Int) (h:List cq) (m:List bV) (i:List Int) (l:List cR) (f:List di) (e:List cX):Option (((Int×Int×Int×Int×Int×List cz×List Int×List Int×List cq×List bV×List Int×List cR×List di×List cX) ⊕ (Int×Int×Int×cD×List cz×List Int×List Int))):=(some (Sum.inl ((i64.wrap (n+1)),b,(i64.wrap (a+1)),c,d,k,j,g,h,m,i,l,f,e)))
def ml (n a:Int) (l:List Int) (c b d:Int) (i:List cz) (k:List Int) (g:List cq) (j:List bV) (m:List Int) (h:List cR) (f:List di) (e:List cX) (o:Bool):Option (((Int×Int×Int×Int×Int×List cz×List Int×List Int×List cq×List bV×List Int×List cR×List di×List cX) ⊕ (Int×Int×Int×cD×List cz×List Int×List Int))):=(bif o then (mj n a l 3 b d i k g j m h f e) else (mj n a l c b d i k g j m h f e))
def mn (n b:Int) (l:List Int) (a c d:Int) (i:List cz) (k:List Int) (e:List cq) (j:List bV) (m:List Int) (h:List cR) (g:List di) (f:List cX):Option (((Int×Int×Int×Int×Int×List cz×List Int×List Int×List cq×List bV×List Int×List cR×List di×List cX) ⊕ (Int×Int×Int×cD×List cz×List Int×List Int))):=(bif (a==0) then ((jv e).bind λo=>(ml n b l a c d i k e j m h g f o)) else (ml n b l a c d i k e j m h g f false))
def iE (p:cy) (g:List Int):Int×Int×Int×Int×Int×List cz×List Int×List Int×List cq×List bV×List Int×List cR×List di×(List cX)->Option (((Int×Int×Int×Int×Int×List cz×List Int×List Int×List cq×List bV×List Int×List cR×List di×List cX) ⊕ (Int×Int×Int×cD×List cz×List Int×List Int))):=λ(e,a,b,c,f,i,h,k,j,r,q,o,m,n)=>(bif (decide (e<(g.length:Int))) then (bif ((decide ((0:Int)<=e))&&(decide (e<(g.length:Int)))) then (bif (a != 0) then (Option.map Sum.inr (mh a b c i h k j)) else (bif (decide ((ix g e)<0)) then ((jS c j q).bind λl=>(mn e b h a l.1 f i k l.2.2 r l.2.1 o m n)) else ((gq (ix g e) p.Code p.Cells p.Pipes p.Locks p.Groups i a (i64.wrap (b+1)) c h f k j r q o m n).bind λd=>(mn e b h d.1 c d.2.1 d.2.2.1 d.2.2.2.2.2.1 d.2.2.2.1 d.2.2.2.2.2.2.1 d.2.2.2.2.1 d.2.2.2.2.2.2.2.1 d.2.2.2.2.2.2.2.2.1 d.2.2.2.2.2.2.2.2.2)))) else none) else (Option.map Sum.inr (mh a b c i h k j)))
def nQ (p:cy) (d:Int) (c:List Int):Int->Option (((Int) ⊕ (Int×Int×Int×cD×List cz×List Int×List Int))):=λa=>(bif (decide (a<(c.length:Int))) then (bif ((decide ((0:Int)<=a))&&(decide (a<(c.length:Int)))) then (bif ((decide ((ix c a)<(-1)))||(decide (d<=(ix c a)))) then ((ph 3 a).bind λe=>(Option.map Sum.inr (some (0,0,0,e,[],[],[])))) else (some (Sum.inl ((i64.wrap (a+1)))))) else none) else (Option.map Sum.inr ((lR p d).bind λb=>(dH (iE p c) (0,0,0,0,0,[],[],b.1,b.2.1,b.2.2.1,b.2.2.2.1,b.2.2.2.2.1,b.2.2.2.2.2.1,b.2.2.2.2.2.2)))))
def mC (p:cy) (a:Int) (b:List Int):Option (Int×Int×Int×cD×List cz×List Int×List Int):=((qk p).bind λc=>(bif (c.Code != 0) then (some (0,0,0,c,[],[],[])) else (bif ((decide (a<1))||(decide ((16:Int)<a))) then ((ph 3 (-1)).bind λd=>(some (0,0,0,d,[],[],[]))) else (bif (decide ((5000:Int)<(b.length:Int))) then ((ph 2 (-1)).bind λe=>(some (0,0,0,e,[],[],[]))) else (dH (nQ p a b) (0))))))
def i6:Option (Bool):=((mC (cy.mk ([(dg.mk 15 0 0)]:List dg) 0 ([0]:List Int) 0 0) 1 ([0,0]:List Int)).bind λa=>(some (((a.2.2.2.1.Code==0)&&((a.1==3)&&((a.2.1==1)&&((a.2.2.2.2.1.length:Int)==0)))))))
def kc (p:cy):Option (Bool):=(some (((decide ((2000:Int)<(p.Code.length:Int)))||(decide ((2000:Int)<(p.Pipes.length:Int))))))
def gG (a b:Int):Option (cD):=(some ((cD.mk a b)))
def ff (x a:Int):Option (Bool):=(some (((decide ((0:Int)<=x))&&(decide (x<a)))))
def f7 (p:cy) (k x:Int):Option (Bool):=(bif (k==110) then (some (true)) else (bif (k==114) then (ff x 8) else (bif (k==99) then (ff x (p.Code.length:Int)) else (bif (k==109) then (ff x p.Cells) else (bif (k==112) then (ff x (p.Pipes.length:Int)) else (bif (k==108) then (ff x p.Locks) else (bif (k==103) then (ff x p.Groups) else (bif (k==107) then (ff x 2) else (ff x 1)))))))))
def fA (c:Int) (a:Bool):Option (((Int) ⊕ (cD))):=(bif a then ((gG 5 c).bind λb=>(Option.map Sum.inr (some (b)))) else (some (Sum.inl ((i64.wrap (c+1))))))
def dX (p:cy):Int->Option (((Int) ⊕ (cD))):=λa=>(bif (decide (a<(p.Code.length:Int))) then (bif ((decide ((0:Int)<=a))&&(decide (a<(p.Code.length:Int)))) then (bif ((decide ((ix p.Code a).Op<1))||(decide ((22:Int)<(ix p.Code a).Op))) then ((gG 4 a).bind λc=>(Option.map Sum.inr (some (c)))) else (bif ((decide ((0:Int)<=(ix p.Code a).Op))&&(decide ((ix p.Code a).Op<(fY.length:Int)))) then (bif (decide ((0:Int)<((((ix fY (ix p.Code a).Op)).size:Nat):Int))) then ((f7 p ((((ix fY (ix p.Code a).Op)).data.getD ((0:Int)).toNat 0).toNat:Int) (ix p.Code a).A).bind λb=>(bif (!b) then (fA a true) else (bif ((decide ((0:Int)<=(ix p.Code a).Op))&&(decide ((ix p.Code a).Op<(fY.length:Int)))) then (bif (decide ((1:Int)<((((ix fY (ix p.Code a).Op)).size:Nat):Int))) then ((f7 p ((((ix fY (ix p.Code a).Op)).data.getD ((1:Int)).toNat 0).toNat:Int) (ix p.Code a).B).bind λd=>(fA a (!d))) else none) else none))) else none) else none)) else none) else (Option.map Sum.inr (some ((cD.mk 0 0)))))
def f5 (p:cy):Int->Option (((Int) ⊕ (cD))):=λa=>(bif (decide (a<(p.Pipes.length:Int))) then (bif ((decide ((0:Int)<=a))&&(decide (a<(p.Pipes.length:Int)))) then (bif ((!(!(decide ((ix p.Pipes a)<0))))||((decide ((0:Int)<=a))&&(decide (a<(p.Pipes.length:Int))))) then (bif ((decide ((ix p.Pipes a)<0))||(decide ((100:Int)<(ix p.Pipes a)))) then ((gG 8 a).bind λb=>(Option.map Sum.inr (some (b)))) else (some (Sum.inl ((i64.wrap (a+1)))))) else none) else none) else (Option.map Sum.inr (dH (dX p) (0))))
def iD (p:cy):Option (cD):=(bif ((decide ((1000:Int)<(p.Code.length:Int)))||(decide ((20:Int)<(p.Pipes.length:Int)))) then ((gG 2 0).bind λb=>(some (b))) else (bif ((decide (p.Cells<0))||((decide ((20:Int)<p.Cells))||((decide (p.Locks<0))||((decide ((20:Int)<p.Locks))||((decide (p.Groups<0))||(decide ((20:Int)<p.Groups))))))) then ((gG 3 0).bind λa=>(some (a))) else (dH (f5 p) (0))))
def jV (b:Int) (a:cD):Option (((Int×cD) ⊕ (cD))):=(some (Sum.inl ((i64.wrap (b+1)),a)))
def jW (d:Int) (a:List Int):Int×cD->Option (((Int×cD) ⊕ (cD))):=λ(c,b)=>(bif ((decide (c<(a.length:Int)))&&(b.Code==0)) then (bif ((decide ((0:Int)<=c))&&(decide (c<(a.length:Int)))) then (bif ((!(!(decide ((ix a c)<(-1)))))||((decide ((0:Int)<=c))&&(decide (c<(a.length:Int))))) then (bif ((decide ((ix a c)<(-1)))||(decide (d<=(ix a c)))) then ((gG 3 c).bind λe=>(jV c e)) else (jV c b)) else none) else none) else (Option.map Sum.inr (some (b))))
def gK (b:Int) (a:List Int) (c:cD):Option (cD):=(dH (jW b a) (0,c))
def fU (b:Int) (a:List Int) (c:cD):Option (cD):=(bif ((c.Code==0)&&(decide ((5000:Int)<(a.length:Int)))) then ((gG 2 (-1)).bind λd=>(gK b a d)) else (gK b a c))
def jx (p:cy) (a:Int) (b:List Int):Option (cD):=((iD p).bind λc=>(bif ((c.Code==0)&&((decide (a<1))||(decide ((16:Int)<a)))) then ((gG 3 (-1)).bind λd=>(fU a b d)) else (fU a b c)))
def jy (p:cy) (c:Int) (b:List Int) (d:Bool):Option (Int×Int×Int×Bool×List cz×List Int×List Int):=(bif d then (some (0,0,0,false,[],[],[])) else ((mC p c b).bind λa=>(some (a.1,a.2.1,a.2.2.1,(a.2.2.2.1.Code==0),a.2.2.2.2.1,a.2.2.2.2.2.1,a.2.2.2.2.2.2))))
def ii (p:cy) (b:Int) (a:List Int):Option (Int×Int×Int×Bool×List cz×List Int×List Int):=((kc p).bind λd=>(bif d then (jy p b a true) else (bif (decide ((5000:Int)<(a.length:Int))) then (jy p b a true) else ((jx p b a).bind λc=>(jy p b a (c.Code != 0))))))
def fp (c:jR) (b a:Int):Option (((Int) ⊕ (Bool))):=(bif (decide (a<=(ix c.Trace b).Obj)) then (Option.map Sum.inr (some (false))) else (some (Sum.inl ((i64.wrap (b+1))))))
def i8 (p:cy) (c:jR) (b:Int) (a:Bool):Option (((Int) ⊕ (Bool))):=(bif a then (fp c b p.Groups) else (bif ((ix c.Trace b).Op==22) then (fp c b 21) else (fp c b 1)))
def i_ (p:cy) (c:jR) (b:Int) (a:Bool):Option (((Int) ⊕ (Bool))):=(bif a then (fp c b p.Locks) else (bif ((ix c.Trace b).Op==19) then (i8 p c b ((ix c.Trace b).Op==19)) else (i8 p c b ((ix c.Trace b).Op==20))))
def h_ (p:cy) (c:jR) (b:Int) (a:Bool):Option (((Int) ⊕ (Bool))):=(bif a then (fp c b (p.Pipes.length:Int)) else (bif ((ix c.Trace b).Op==17) then (i_ p c b ((ix c.Trace b).Op==17)) else (i_ p c b ((ix c.Trace b).Op==18))))
def ja (p:cy) (b:jR) (a:Int) (c:Bool):Option (((Int) ⊕ (Bool))):=(bif c then (fp b a p.Cells) else (bif ((ix b.Trace a).Op==14) then (h_ p b a ((ix b.Trace a).Op==14)) else (bif ((ix b.Trace a).Op==15) then (h_ p b a ((ix b.Trace a).Op==15)) else (h_ p b a ((ix b.Trace a).Op==16)))))
def ia (p:cy) (b:jR):Int->Option (((Int) ⊕ (Bool))):=λa=>(bif (decide (a<(b.Trace.length:Int))) then (bif ((decide ((0:Int)<=a))&&(decide (a<(b.Trace.length:Int)))) then (bif ((decide ((ix b.Trace a).Op<8))||((decide ((22:Int)<(ix b.Trace a).Op))||((decide ((ix b.Trace a).Task<1))||((decide ((64:Int)<(ix b.Trace a).Task))||((decide ((ix b.Trace a).Obj<0))||(decide ((20:Int)<(ix b.Trace a).Obj))))))) then (Option.map Sum.inr (some (false))) else (bif ((ix b.Trace a).Op==12) then (ja p b a ((ix b.Trace a).Op==12)) else (ja p b a ((ix b.Trace a).Op==13)))) else none) else (Option.map Sum.inr (some (true))))
def km (p:cy) (a:jR):Option (Bool):=(dH (ia p a) (0))
def ge (f c d e:Int) (a:List cz) (g h b:List Int):Option (((Int×Int×Int×Int×List Int×List cz×List Int×List Int) ⊕ (Bool))):=(bif ((decide ((0:Int)<=(ix a f).Obj))&&(decide ((ix a f).Obj<(b.length:Int)))) then (bif ((!((!(decide ((ix b (ix a f).Obj)<0)))&&((ix a f).Op==20)))||((decide ((0:Int)<=(ix a f).Obj))&&(decide ((ix a f).Obj<(b.length:Int))))) then (bif ((decide ((ix b (ix a f).Obj)<0))||(((ix a f).Op==20)&&((ix b (ix a f).Obj) != 0))) then (Option.map Sum.inr (some (false))) else (some (Sum.inl ((i64.wrap (f+1)),c,d,e,b,a,g,h)))) else none) else none)
def jk:Int×Int×Int×Int×List Int×List cz×List Int×(List Int)->Option (((Int×Int×Int×Int×List Int×List cz×List Int×List Int) ⊕ (Bool))):=λ(f,b,c,e,d,a,h,g)=>(bif (decide (f<(a.length:Int))) then (bif ((decide ((0:Int)<=f))&&(decide (f<(a.length:Int)))) then (bif ((ix a f).Op==19) then (bif ((decide ((0:Int)<=(ix a f).Obj))&&(decide ((ix a f).Obj<(d.length:Int)))) then (bif ((decide ((0:Int)<=(ix a f).Obj))&&(decide ((ix a f).Obj<(d.length:Int)))) then (ge f b c e a h g (d.set (ix a f).Obj.toNat (i64.wrap ((ix d (ix a f).Obj)+(ix a f).Value)))) else none) else none) else (ge f b c e a h g d)) else none) else (Option.map Sum.inr (some (true))))
def ke (p:cy) (c:Int) (b:List Int):Option (Bool):=(i6.bind λe=>(bif (!e) then (some (false)) else ((ii p c b).bind λa=>(bif (!a.2.2.2.1) then (some (true)) else ((km p (jR.mk a.2.2.2.2.1 a.1 a.2.1 a.2.2.1 a.2.2.2.2.2.1 a.2.2.2.2.2.2)).bind λd=>(bif (!d) then (some (false)) else (bif (decide (0<=(21:Int)/\(21:Int)<=4611686018427387904/\(8:Int)*(21:Int)<=140737488355328)) then (dH jk (0,a.1,a.2.1,a.2.2.1,(List.replicate ((21:Int)).toNat (default:Int)),a.2.2.2.2.1,a.2.2.2.2.2.1,a.2.2.2.2.2.2)) else none)))))))
end
end Go.Proofs.YthcdpjkgdcpkmaaGreatDoor
