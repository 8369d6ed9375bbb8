/-
 What laws of the chapter wk compute, and lemmas on it.
 No conditions.
-/
import Derived.Test.YthcdpjkgdcpkmaaGreatDoorwkA4
open Go.IntKind (i64)
set_option linter.unusedSimpArgs false
set_option linter.unusedVariables false
set_option linter.unusedSectionVars false
namespace Go.Proofs.YthcdpjkgdcpkmaaGreatDoor
noncomputable section
open Go Go.Sx
structure df where
 Op:Int
 A:Int
 B:Int
 deriving Inhabited,DecidableEq
instance : b_ df:=⟨3,λd=>[.v (.int .i64 d.Op),.v (.int .i64 d.A),.v (.int .i64 d.B)],λ_=>rfl,λ_=>rfl,λ_=>by simp only [ir,SV.st,kS,dc]⟩
@[push_cast] theorem ND (xs:List df):iW (fl xs)=true:=m5 (λ_=>rfl) xs
@[push_cast] theorem xd:b_.sz df=3:=rfl
@[push_cast] theorem My (d:df):b_.cells d=[.v (.int .i64 d.Op),.v (.int .i64 d.A),.v (.int .i64 d.B)]:=rfl
@[push_cast] theorem M_ (xs:List df) (x0:Int) (x1:Int) (x2:Int):fl xs++[.v (.int .i64 x0),.v (.int .i64 x1),.v (.int .i64 x2)]=fl (xs++[df.mk x0 x1 x2]):=by rw [fF];rfl
@[push_cast] theorem Mz (xs:List df) (i:Int):(fl xs).getD (i.toNat*3) (.v (.int .i64 0)) = .v (.int .i64 (ix xs i).Op):=by
 have:=fo xs i 0 (by decide) (.v (.int .i64 0):SV) rfl
 rw [xd,eE] at this
 exact this
@[push_cast] theorem Na (xs:List df) (i:Int):(fl xs).getD (i.toNat*3+1) (.v (.int .i64 0)) = .v (.int .i64 (ix xs i).A):=by
 have:=fo xs i 1 (by decide) (.v (.int .i64 0):SV) rfl
 rw [xd] at this
 exact this
@[push_cast] theorem Nb (xs:List df) (i:Int):(fl xs).getD (i.toNat*3+2) (.v (.int .i64 0)) = .v (.int .i64 (ix xs i).B):=by
 have:=fo xs i 2 (by decide) (.v (.int .i64 0):SV) rfl
 rw [xd] at this
 exact this
structure cx where
 Code:(List df)
 Cells:Int
 Pipes:(List Int)
 Locks:Int
 Groups:Int
 deriving Inhabited,DecidableEq
instance : b_ cx:=⟨5,λd=>[.sl d.Code.length (fl d.Code),.v (.int .i64 d.Cells),.sl d.Pipes.length (fl d.Pipes),.v (.int .i64 d.Locks),.v (.int .i64 d.Groups)],λ_=>rfl,λ_=>rfl,λ_=>by simp only [ir,SV.st,kS,dc]⟩
@[push_cast] theorem uf:b_.sz cx=5:=rfl
@[push_cast] theorem AF (d:cx):b_.cells d=[.sl d.Code.length (fl d.Code),.v (.int .i64 d.Cells),.sl d.Pipes.length (fl d.Pipes),.v (.int .i64 d.Locks),.v (.int .i64 d.Groups)]:=rfl
@[push_cast] theorem Lz (xs:List cx) (x0:(List df)) (x1:Int) (x2:(List Int)) (x3:Int) (x4:Int):fl xs++[.sl x0.length (fl x0),.v (.int .i64 x1),.sl x2.length (fl x2),.v (.int .i64 x3),.v (.int .i64 x4)]=fl (xs++[cx.mk x0 x1 x2 x3 x4]):=by rw [fF];rfl
@[push_cast] theorem Ij (xs:List cx) (i:Int):(fl xs).getD (i.toNat*5+1) (.v (.int .i64 0)) = .v (.int .i64 (ix xs i).Cells):=by
 have:=fo xs i 1 (by decide) (.v (.int .i64 0):SV) rfl
 rw [uf] at this
 exact this
@[push_cast] theorem Ik (xs:List cx) (i:Int):(fl xs).getD (i.toNat*5+3) (.v (.int .i64 0)) = .v (.int .i64 (ix xs i).Locks):=by
 have:=fo xs i 3 (by decide) (.v (.int .i64 0):SV) rfl
 rw [uf] at this
 exact this
@[push_cast] theorem HZ (xs:List cx) (i:Int):(fl xs).getD (i.toNat*5+4) (.v (.int .i64 0)) = .v (.int .i64 (ix xs i).Groups):=by
 have:=fo xs i 4 (by decide) (.v (.int .i64 0):SV) rfl
 rw [uf] at this
 exact this
structure cC where
 Code:Int
 At:Int
 deriving Inhabited,DecidableEq
instance : b_ cC:=⟨2,λd=>[.v (.int .i64 d.Code),.v (.int .i64 d.At)],λ_=>rfl,λ_=>rfl,λ_=>by simp only [ir,SV.st,kS,dc]⟩
@[push_cast] theorem Ob (xs:List cC):iW (fl xs)=true:=m5 (λ_=>rfl) xs
@[push_cast] theorem Du:b_.sz cC=2:=rfl
@[push_cast] theorem Nc (d:cC):b_.cells d=[.v (.int .i64 d.Code),.v (.int .i64 d.At)]:=rfl
@[push_cast] theorem NE (xs:List cC) (x0:Int) (x1:Int):fl xs++[.v (.int .i64 x0),.v (.int .i64 x1)]=fl (xs++[cC.mk x0 x1]):=by rw [fF];rfl
@[push_cast] theorem LA (xs:List cC) (i:Int):(fl xs).getD (i.toNat*2) (.v (.int .i64 0)) = .v (.int .i64 (ix xs i).Code):=by
 have:=fo xs i 0 (by decide) (.v (.int .i64 0):SV) rfl
 rw [Du,eE] at this
 exact this
@[push_cast] theorem Nd (xs:List cC) (i:Int):(fl xs).getD (i.toNat*2+1) (.v (.int .i64 0)) = .v (.int .i64 (ix xs i).At):=by
 have:=fo xs i 1 (by decide) (.v (.int .i64 0):SV) rfl
 rw [Du] at this
 exact this
structure kind where
 name:ByteArray
 args:ByteArray
 deriving Inhabited,DecidableEq
instance : b_ kind:=⟨2,λd=>[.v (.string d.name),.v (.string d.args)],λ_=>rfl,λ_=>rfl,λ_=>by simp only [ir,SV.st,kS,dc]⟩
@[push_cast] theorem OA (xs:List kind):iW (fl xs)=true:=m5 (λ_=>rfl) xs
@[push_cast] theorem OI:b_.sz kind=2:=rfl
@[push_cast] theorem NF (d:kind):b_.cells d=[.v (.string d.name),.v (.string d.args)]:=rfl
@[push_cast] theorem Oc (xs:List kind) (x0:ByteArray) (x1:ByteArray):fl xs++[.v (.string x0),.v (.string x1)]=fl (xs++[kind.mk x0 x1]):=by rw [fF];rfl
structure task where
 pc:Int
 r:dm 8
 state:Int
 when:Int
 seq:Int
 deriving Inhabited,DecidableEq
instance : b_ task:=⟨12,λd=>((.v (.int .i64 d.pc)::(b_.cells d.r++(.v (.int .i64 d.state)::(.v (.int .i64 d.when)::(.v (.int .i64 d.seq)::[]))))):List SV),(λ_=>by simp only [KV,gq,List.length_nil]),(λ_=>by simp only [KW,mK,List.all_nil,jr,Value.oneCell',dc]),λ_=>by simp only [Fb,ir,SV.st,kS,dc]⟩
@[push_cast] theorem OB (xs:List task):iW (fl xs)=true:=m5 (λ_=>rfl) xs
@[push_cast] theorem xE:b_.sz task=12:=rfl
@[push_cast] theorem NG (d:task):b_.cells d=((.v (.int .i64 d.pc)::(b_.cells d.r++(.v (.int .i64 d.state)::(.v (.int .i64 d.when)::(.v (.int .i64 d.seq)::[]))))):List SV):=rfl
@[push_cast] theorem Od (xs:List task) (x0:Int) (x1:dm 8) (x9:Int) (x10:Int) (x11:Int):fl xs++((.v (.int .i64 x0)::(b_.cells x1++(.v (.int .i64 x9)::(.v (.int .i64 x10)::(.v (.int .i64 x11)::[]))))):List SV)=fl (xs++[task.mk x0 x1 x9 x10 x11]):=by rw [fF];rfl
@[push_cast] theorem NH (xs:List task) (i:Int):(fl xs).getD (i.toNat*12) (.v (.int .i64 0)) = .v (.int .i64 (ix xs i).pc):=by
 have:=fo xs i 0 (by decide) (.v (.int .i64 0):SV) rfl
 rw [xE,eE] at this
 exact this
@[push_cast] theorem LB (xs:List task) (i:Int):(fl xs).getD (i.toNat*12+9) (.v (.int .i64 0)) = .v (.int .i64 (ix xs i).state):=by
 have:=fo xs i 9 (by decide) (.v (.int .i64 0):SV) rfl
 rw [xE] at this
 exact this
@[push_cast] theorem MA (xs:List task) (i:Int):(fl xs).getD (i.toNat*12+10) (.v (.int .i64 0)) = .v (.int .i64 (ix xs i).when):=by
 have:=fo xs i 10 (by decide) (.v (.int .i64 0):SV) rfl
 rw [xE] at this
 exact this
@[push_cast] theorem Nf (xs:List task) (i:Int):(fl xs).getD (i.toNat*12+11) (.v (.int .i64 0)) = .v (.int .i64 (ix xs i).seq):=by
 have:=fo xs i 11 (by decide) (.v (.int .i64 0):SV) rfl
 rw [xE] at this
 exact this
structure bV where
 now:Int
 Ring_Next:Int
 Ring_List:(List Int)
 deriving Inhabited,DecidableEq
instance : b_ bV:=⟨3,λd=>[.v (.int .i64 d.now),.v (.int .i64 d.Ring_Next),.sl d.Ring_List.length (fl d.Ring_List)],λ_=>rfl,λ_=>rfl,λ_=>by simp only [ir,SV.st,kS,dc]⟩
@[push_cast] theorem xe:b_.sz bV=3:=rfl
@[push_cast] theorem Jy (d:bV):b_.cells d=[.v (.int .i64 d.now),.v (.int .i64 d.Ring_Next),.sl d.Ring_List.length (fl d.Ring_List)]:=rfl
@[push_cast] theorem KZ (xs:List bV) (x0:Int) (x1:Int) (x2:(List Int)):fl xs++[.v (.int .i64 x0),.v (.int .i64 x1),.sl x2.length (fl x2)]=fl (xs++[bV.mk x0 x1 x2]):=by rw [fF];rfl
@[push_cast] theorem Jb (xs:List bV) (i:Int):(fl xs).getD (i.toNat*3) (.v (.int .i64 0)) = .v (.int .i64 (ix xs i).now):=by
 have:=fo xs i 0 (by decide) (.v (.int .i64 0):SV) rfl
 rw [xe,eE] at this
 exact this
@[push_cast] theorem Ey (xs:List bV) (i:Int):(fl xs).getD (i.toNat*3+1) (.v (.int .i64 0)) = .v (.int .i64 (ix xs i).Ring_Next):=by
 have:=fo xs i 1 (by decide) (.v (.int .i64 0):SV) rfl
 rw [xe] at this
 exact this
structure cJ where
 Task:Int
 Case:Int
 Value:Int
 deriving Inhabited,DecidableEq
instance : b_ cJ:=⟨3,λd=>[.v (.int .i64 d.Task),.v (.int .i64 d.Case),.v (.int .i64 d.Value)],λ_=>rfl,λ_=>rfl,λ_=>by simp only [ir,SV.st,kS,dc]⟩
@[push_cast] theorem Oe (xs:List cJ):iW (fl xs)=true:=m5 (λ_=>rfl) xs
@[push_cast] theorem yG:b_.sz cJ=3:=rfl
@[push_cast] theorem Ng (d:cJ):b_.cells d=[.v (.int .i64 d.Task),.v (.int .i64 d.Case),.v (.int .i64 d.Value)]:=rfl
@[push_cast] theorem NI (xs:List cJ) (x0:Int) (x1:Int) (x2:Int):fl xs++[.v (.int .i64 x0),.v (.int .i64 x1),.v (.int .i64 x2)]=fl (xs++[cJ.mk x0 x1 x2]):=by rw [fF];rfl
@[push_cast] theorem LC (xs:List cJ) (i:Int):(fl xs).getD (i.toNat*3) (.v (.int .i64 0)) = .v (.int .i64 (ix xs i).Task):=by
 have:=fo xs i 0 (by decide) (.v (.int .i64 0):SV) rfl
 rw [yG,eE] at this
 exact this
@[push_cast] theorem LD (xs:List cJ) (i:Int):(fl xs).getD (i.toNat*3+1) (.v (.int .i64 0)) = .v (.int .i64 (ix xs i).Case):=by
 have:=fo xs i 1 (by decide) (.v (.int .i64 0):SV) rfl
 rw [yG] at this
 exact this
@[push_cast] theorem K0 (xs:List cJ) (i:Int):(fl xs).getD (i.toNat*3+2) (.v (.int .i64 0)) = .v (.int .i64 (ix xs i).Value):=by
 have:=fo xs i 2 (by decide) (.v (.int .i64 0):SV) rfl
 rw [yG] at this
 exact this
structure cQ where
 Cap:Int
 Items:(List Int)
 Closed:Bool
 Senders:(List cJ)
 Getters:(List cJ)
 deriving Inhabited,DecidableEq
instance : b_ cQ:=⟨5,λd=>[.v (.int .i64 d.Cap),.sl d.Items.length (fl d.Items),.v (.bool d.Closed),.sl d.Senders.length (fl d.Senders),.sl d.Getters.length (fl d.Getters)],λ_=>rfl,λ_=>rfl,λ_=>by simp only [ir,SV.st,kS,dc]⟩
@[push_cast] theorem Fh:b_.sz cQ=5:=rfl
@[push_cast] theorem NJ (d:cQ):b_.cells d=[.v (.int .i64 d.Cap),.sl d.Items.length (fl d.Items),.v (.bool d.Closed),.sl d.Senders.length (fl d.Senders),.sl d.Getters.length (fl d.Getters)]:=rfl
@[push_cast] theorem Of (xs:List cQ) (x0:Int) (x1:(List Int)) (x2:Bool) (x3:(List cJ)) (x4:(List cJ)):fl xs++[.v (.int .i64 x0),.sl x1.length (fl x1),.v (.bool x2),.sl x3.length (fl x3),.sl x4.length (fl x4)]=fl (xs++[cQ.mk x0 x1 x2 x3 x4]):=by rw [fF];rfl
@[push_cast] theorem Nh (xs:List cQ) (i:Int):(fl xs).getD (i.toNat*5) (.v (.int .i64 0)) = .v (.int .i64 (ix xs i).Cap):=by
 have:=fo xs i 0 (by decide) (.v (.int .i64 0):SV) rfl
 rw [Fh,eE] at this
 exact this
@[push_cast] theorem K7 (xs:List cQ) (i:Int):(fl xs).getD (i.toNat*5+2) (.v (.bool false)) = .v (.bool (ix xs i).Closed):=by
 have:=fo xs i 2 (by decide) (.v (.bool false):SV) rfl
 rw [Fh] at this
 exact this
structure dQ where
 Task:Int
 Write:Bool
 N:Int
 deriving Inhabited,DecidableEq
instance : b_ dQ:=⟨3,λd=>[.v (.int .i64 d.Task),.v (.bool d.Write),.v (.int .i64 d.N)],λ_=>rfl,λ_=>rfl,λ_=>by simp only [ir,SV.st,kS,dc]⟩
@[push_cast] theorem OC (xs:List dQ):iW (fl xs)=true:=m5 (λ_=>rfl) xs
@[push_cast] theorem AG:b_.sz dQ=3:=rfl
@[push_cast] theorem NK (d:dQ):b_.cells d=[.v (.int .i64 d.Task),.v (.bool d.Write),.v (.int .i64 d.N)]:=rfl
@[push_cast] theorem Og (xs:List dQ) (x0:Int) (x1:Bool) (x2:Int):fl xs++[.v (.int .i64 x0),.v (.bool x1),.v (.int .i64 x2)]=fl (xs++[dQ.mk x0 x1 x2]):=by rw [fF];rfl
@[push_cast] theorem MB (xs:List dQ) (i:Int):(fl xs).getD (i.toNat*3) (.v (.int .i64 0)) = .v (.int .i64 (ix xs i).Task):=by
 have:=fo xs i 0 (by decide) (.v (.int .i64 0):SV) rfl
 rw [AG,eE] at this
 exact this
@[push_cast] theorem LF (xs:List dQ) (i:Int):(fl xs).getD (i.toNat*3+1) (.v (.bool false)) = .v (.bool (ix xs i).Write):=by
 have:=fo xs i 1 (by decide) (.v (.bool false):SV) rfl
 rw [AG] at this
 exact this
@[push_cast] theorem Oh (xs:List dQ) (i:Int):(fl xs).getD (i.toNat*3+2) (.v (.int .i64 0)) = .v (.int .i64 (ix xs i).N):=by
 have:=fo xs i 2 (by decide) (.v (.int .i64 0):SV) rfl
 rw [AG] at this
 exact this
structure di where
 Readers:Int
 Writer:Bool
 Line:(List dQ)
 deriving Inhabited,DecidableEq
instance : b_ di:=⟨3,λd=>[.v (.int .i64 d.Readers),.v (.bool d.Writer),.sl d.Line.length (fl d.Line)],λ_=>rfl,λ_=>rfl,λ_=>by simp only [ir,SV.st,kS,dc]⟩
@[push_cast] theorem Fi:b_.sz di=3:=rfl
@[push_cast] theorem NL (d:di):b_.cells d=[.v (.int .i64 d.Readers),.v (.bool d.Writer),.sl d.Line.length (fl d.Line)]:=rfl
@[push_cast] theorem Oi (xs:List di) (x0:Int) (x1:Bool) (x2:(List dQ)):fl xs++[.v (.int .i64 x0),.v (.bool x1),.sl x2.length (fl x2)]=fl (xs++[di.mk x0 x1 x2]):=by rw [fF];rfl
@[push_cast] theorem Jz (xs:List di) (i:Int):(fl xs).getD (i.toNat*3) (.v (.int .i64 0)) = .v (.int .i64 (ix xs i).Readers):=by
 have:=fo xs i 0 (by decide) (.v (.int .i64 0):SV) rfl
 rw [Fi,eE] at this
 exact this
@[push_cast] theorem K8 (xs:List di) (i:Int):(fl xs).getD (i.toNat*3+1) (.v (.bool false)) = .v (.bool (ix xs i).Writer):=by
 have:=fo xs i 1 (by decide) (.v (.bool false):SV) rfl
 rw [Fi] at this
 exact this
structure cX where
 Count:Int
 Line:(List Int)
 deriving Inhabited,DecidableEq
instance : b_ cX:=⟨2,λd=>[.v (.int .i64 d.Count),.sl d.Line.length (fl d.Line)],λ_=>rfl,λ_=>rfl,λ_=>by simp only [ir,SV.st,kS,dc]⟩
@[push_cast] theorem Jc:b_.sz cX=2:=rfl
@[push_cast] theorem Ni (d:cX):b_.cells d=[.v (.int .i64 d.Count),.sl d.Line.length (fl d.Line)]:=rfl
@[push_cast] theorem NM (xs:List cX) (x0:Int) (x1:(List Int)):fl xs++[.v (.int .i64 x0),.sl x1.length (fl x1)]=fl (xs++[cX.mk x0 x1]):=by rw [fF];rfl
@[push_cast] theorem K9 (xs:List cX) (i:Int):(fl xs).getD (i.toNat*2) (.v (.int .i64 0)) = .v (.int .i64 (ix xs i).Count):=by
 have:=fo xs i 0 (by decide) (.v (.int .i64 0):SV) rfl
 rw [Jc,eE] at this
 exact this
structure cy where
 Task:Int
 Op:Int
 Obj:Int
 Value:Int
 deriving Inhabited,DecidableEq
instance : b_ cy:=⟨4,λd=>[.v (.int .i64 d.Task),.v (.int .i64 d.Op),.v (.int .i64 d.Obj),.v (.int .i64 d.Value)],λ_=>rfl,λ_=>rfl,λ_=>by simp only [ir,SV.st,kS,dc]⟩
@[push_cast] theorem NN (xs:List cy):iW (fl xs)=true:=m5 (λ_=>rfl) xs
@[push_cast] theorem tO:b_.sz cy=4:=rfl
@[push_cast] theorem MC (d:cy):b_.cells d=[.v (.int .i64 d.Task),.v (.int .i64 d.Op),.v (.int .i64 d.Obj),.v (.int .i64 d.Value)]:=rfl
@[push_cast] theorem Nj (xs:List cy) (x0:Int) (x1:Int) (x2:Int) (x3:Int):fl xs++[.v (.int .i64 x0),.v (.int .i64 x1),.v (.int .i64 x2),.v (.int .i64 x3)]=fl (xs++[cy.mk x0 x1 x2 x3]):=by rw [fF];rfl
@[push_cast] theorem K_ (xs:List cy) (i:Int):(fl xs).getD (i.toNat*4) (.v (.int .i64 0)) = .v (.int .i64 (ix xs i).Task):=by
 have:=fo xs i 0 (by decide) (.v (.int .i64 0):SV) rfl
 rw [tO,eE] at this
 exact this
@[push_cast] theorem MD (xs:List cy) (i:Int):(fl xs).getD (i.toNat*4+1) (.v (.int .i64 0)) = .v (.int .i64 (ix xs i).Op):=by
 have:=fo xs i 1 (by decide) (.v (.int .i64 0):SV) rfl
 rw [tO] at this
 exact this
@[push_cast] theorem LG (xs:List cy) (i:Int):(fl xs).getD (i.toNat*4+2) (.v (.int .i64 0)) = .v (.int .i64 (ix xs i).Obj):=by
 have:=fo xs i 2 (by decide) (.v (.int .i64 0):SV) rfl
 rw [tO] at this
 exact this
@[push_cast] theorem JA (xs:List cy) (i:Int):(fl xs).getD (i.toNat*4+3) (.v (.int .i64 0)) = .v (.int .i64 (ix xs i).Value):=by
 have:=fo xs i 3 (by decide) (.v (.int .i64 0):SV) rfl
 rw [tO] at this
 exact this
structure fy where
 Next:Int
 List:(List Int)
 deriving Inhabited,DecidableEq
instance : b_ fy:=⟨2,λd=>[.v (.int .i64 d.Next),.sl d.List.length (fl d.List)],λ_=>rfl,λ_=>rfl,λ_=>by simp only [ir,SV.st,kS,dc]⟩
@[push_cast] theorem La:b_.sz fy=2:=rfl
@[push_cast] theorem NO (d:fy):b_.cells d=[.v (.int .i64 d.Next),.sl d.List.length (fl d.List)]:=rfl
@[push_cast] theorem Oj (xs:List fy) (x0:Int) (x1:(List Int)):fl xs++[.v (.int .i64 x0),.sl x1.length (fl x1)]=fl (xs++[fy.mk x0 x1]):=by rw [fF];rfl
@[push_cast] theorem ME (xs:List fy) (i:Int):(fl xs).getD (i.toNat*2) (.v (.int .i64 0)) = .v (.int .i64 (ix xs i).Next):=by
 have:=fo xs i 0 (by decide) (.v (.int .i64 0):SV) rfl
 rw [La,eE] at this
 exact this
structure de where
 Task:Int
 Case:Int
 Value:Int
 Ok:Bool
 Panic:Bool
 deriving Inhabited,DecidableEq
instance : b_ de:=⟨5,λd=>[.v (.int .i64 d.Task),.v (.int .i64 d.Case),.v (.int .i64 d.Value),.v (.bool d.Ok),.v (.bool d.Panic)],λ_=>rfl,λ_=>rfl,λ_=>by simp only [ir,SV.st,kS,dc]⟩
@[push_cast] theorem Ol (xs:List de):iW (fl xs)=true:=m5 (λ_=>rfl) xs
@[push_cast] theorem tf:b_.sz de=5:=rfl
@[push_cast] theorem Nk (d:de):b_.cells d=[.v (.int .i64 d.Task),.v (.int .i64 d.Case),.v (.int .i64 d.Value),.v (.bool d.Ok),.v (.bool d.Panic)]:=rfl
@[push_cast] theorem NP (xs:List de) (x0:Int) (x1:Int) (x2:Int) (x3:Bool) (x4:Bool):fl xs++[.v (.int .i64 x0),.v (.int .i64 x1),.v (.int .i64 x2),.v (.bool x3),.v (.bool x4)]=fl (xs++[de.mk x0 x1 x2 x3 x4]):=by rw [fF];rfl
@[push_cast] theorem LH (xs:List de) (i:Int):(fl xs).getD (i.toNat*5) (.v (.int .i64 0)) = .v (.int .i64 (ix xs i).Task):=by
 have:=fo xs i 0 (by decide) (.v (.int .i64 0):SV) rfl
 rw [tf,eE] at this
 exact this
@[push_cast] theorem LI (xs:List de) (i:Int):(fl xs).getD (i.toNat*5+1) (.v (.int .i64 0)) = .v (.int .i64 (ix xs i).Case):=by
 have:=fo xs i 1 (by decide) (.v (.int .i64 0):SV) rfl
 rw [tf] at this
 exact this
@[push_cast] theorem Lb (xs:List de) (i:Int):(fl xs).getD (i.toNat*5+2) (.v (.int .i64 0)) = .v (.int .i64 (ix xs i).Value):=by
 have:=fo xs i 2 (by decide) (.v (.int .i64 0):SV) rfl
 rw [tf] at this
 exact this
@[push_cast] theorem Nl (xs:List de) (i:Int):(fl xs).getD (i.toNat*5+3) (.v (.bool false)) = .v (.bool (ix xs i).Ok):=by
 have:=fo xs i 3 (by decide) (.v (.bool false):SV) rfl
 rw [tf] at this
 exact this
@[push_cast] theorem Lc (xs:List de) (i:Int):(fl xs).getD (i.toNat*5+4) (.v (.bool false)) = .v (.bool (ix xs i).Panic):=by
 have:=fo xs i 4 (by decide) (.v (.bool false):SV) rfl
 rw [tf] at this
 exact this
structure lk where
 Done:Bool
 Panic:Bool
 Ok:Bool
 Value:Int
 Case:Int
 Wakes:(List de)
 deriving Inhabited,DecidableEq
instance : b_ lk:=⟨6,λd=>[.v (.bool d.Done),.v (.bool d.Panic),.v (.bool d.Ok),.v (.int .i64 d.Value),.v (.int .i64 d.Case),.sl d.Wakes.length (fl d.Wakes)],λ_=>rfl,λ_=>rfl,λ_=>by simp only [ir,SV.st,kS,dc]⟩
@[push_cast] theorem rN:b_.sz lk=6:=rfl
@[push_cast] theorem MF (d:lk):b_.cells d=[.v (.bool d.Done),.v (.bool d.Panic),.v (.bool d.Ok),.v (.int .i64 d.Value),.v (.int .i64 d.Case),.sl d.Wakes.length (fl d.Wakes)]:=rfl
@[push_cast] theorem Nn (xs:List lk) (x0:Bool) (x1:Bool) (x2:Bool) (x3:Int) (x4:Int) (x5:(List de)):fl xs++[.v (.bool x0),.v (.bool x1),.v (.bool x2),.v (.int .i64 x3),.v (.int .i64 x4),.sl x5.length (fl x5)]=fl (xs++[lk.mk x0 x1 x2 x3 x4 x5]):=by rw [fF];rfl
@[push_cast] theorem Ld (xs:List lk) (i:Int):(fl xs).getD (i.toNat*6) (.v (.bool false)) = .v (.bool (ix xs i).Done):=by
 have:=fo xs i 0 (by decide) (.v (.bool false):SV) rfl
 rw [rN,eE] at this
 exact this
@[push_cast] theorem JB (xs:List lk) (i:Int):(fl xs).getD (i.toNat*6+1) (.v (.bool false)) = .v (.bool (ix xs i).Panic):=by
 have:=fo xs i 1 (by decide) (.v (.bool false):SV) rfl
 rw [rN] at this
 exact this
@[push_cast] theorem MG (xs:List lk) (i:Int):(fl xs).getD (i.toNat*6+2) (.v (.bool false)) = .v (.bool (ix xs i).Ok):=by
 have:=fo xs i 2 (by decide) (.v (.bool false):SV) rfl
 rw [rN] at this
 exact this
@[push_cast] theorem JC (xs:List lk) (i:Int):(fl xs).getD (i.toNat*6+3) (.v (.int .i64 0)) = .v (.int .i64 (ix xs i).Value):=by
 have:=fo xs i 3 (by decide) (.v (.int .i64 0):SV) rfl
 rw [rN] at this
 exact this
@[push_cast] theorem Le (xs:List lk) (i:Int):(fl xs).getD (i.toNat*6+4) (.v (.int .i64 0)) = .v (.int .i64 (ix xs i).Case):=by
 have:=fo xs i 4 (by decide) (.v (.int .i64 0):SV) rfl
 rw [rN] at this
 exact this
structure jT where
 Trace:(List cy)
 State:Int
 Steps:Int
 Now:Int
 Tasks:(List Int)
 Cells:(List Int)
 deriving Inhabited,DecidableEq
instance : b_ jT:=⟨6,λd=>[.sl d.Trace.length (fl d.Trace),.v (.int .i64 d.State),.v (.int .i64 d.Steps),.v (.int .i64 d.Now),.sl d.Tasks.length (fl d.Tasks),.sl d.Cells.length (fl d.Cells)],λ_=>rfl,λ_=>rfl,λ_=>by simp only [ir,SV.st,kS,dc]⟩
@[push_cast] theorem xf:b_.sz jT=6:=rfl
@[push_cast] theorem MH (d:jT):b_.cells d=[.sl d.Trace.length (fl d.Trace),.v (.int .i64 d.State),.v (.int .i64 d.Steps),.v (.int .i64 d.Now),.sl d.Tasks.length (fl d.Tasks),.sl d.Cells.length (fl d.Cells)]:=rfl
@[push_cast] theorem No (xs:List jT) (x0:(List cy)) (x1:Int) (x2:Int) (x3:Int) (x4:(List Int)) (x5:(List Int)):fl xs++[.sl x0.length (fl x0),.v (.int .i64 x1),.v (.int .i64 x2),.v (.int .i64 x3),.sl x4.length (fl x4),.sl x5.length (fl x5)]=fl (xs++[jT.mk x0 x1 x2 x3 x4 x5]):=by rw [fF];rfl
@[push_cast] theorem JD (xs:List jT) (i:Int):(fl xs).getD (i.toNat*6+1) (.v (.int .i64 0)) = .v (.int .i64 (ix xs i).State):=by
 have:=fo xs i 1 (by decide) (.v (.int .i64 0):SV) rfl
 rw [xf] at this
 exact this
@[push_cast] theorem JE (xs:List jT) (i:Int):(fl xs).getD (i.toNat*6+2) (.v (.int .i64 0)) = .v (.int .i64 (ix xs i).Steps):=by
 have:=fo xs i 2 (by decide) (.v (.int .i64 0):SV) rfl
 rw [xf] at this
 exact this
@[push_cast] theorem LJ (xs:List jT) (i:Int):(fl xs).getD (i.toNat*6+3) (.v (.int .i64 0)) = .v (.int .i64 (ix xs i).Now):=by
 have:=fo xs i 3 (by decide) (.v (.int .i64 0):SV) rfl
 rw [xf] at this
 exact this
def ie:List kind:=[⟨⟨#[]⟩,⟨#[]⟩⟩,⟨⟨#[115,101,116]⟩,⟨#[114,110]⟩⟩,⟨⟨#[99,111,112,121]⟩,⟨#[114,114]⟩⟩,⟨⟨#[97,100,100]⟩,⟨#[114,114]⟩⟩,⟨⟨#[115,117,98]⟩,⟨#[114,114]⟩⟩,⟨⟨#[108,101,115,115]⟩,⟨#[114,114]⟩⟩,⟨⟨#[106,117,109,112]⟩,⟨#[99,45]⟩⟩,⟨⟨#[122,101,114,111]⟩,⟨#[114,99]⟩⟩,⟨⟨#[112,114,105,110,116]⟩,⟨#[114,45]⟩⟩,⟨⟨#[101,110,100]⟩,⟨#[45,45]⟩⟩,⟨⟨#[121,105,101,108,100]⟩,⟨#[45,45]⟩⟩,⟨⟨#[103,111]⟩,⟨#[99,114]⟩⟩,⟨⟨#[108,111,97,100]⟩,⟨#[114,109]⟩⟩,⟨⟨#[115,116,111,114,101]⟩,⟨#[109,114]⟩⟩,⟨⟨#[115,101,110,100]⟩,⟨#[112,114]⟩⟩,⟨⟨#[103,101,116]⟩,⟨#[114,112]⟩⟩,⟨⟨#[115,104,117,116]⟩,⟨#[112,45]⟩⟩,⟨⟨#[108,111,99,107]⟩,⟨#[108,107]⟩⟩,⟨⟨#[117,110,108,111,99,107]⟩,⟨#[108,107]⟩⟩,⟨⟨#[99,111,117,110,116]⟩,⟨#[103,114]⟩⟩,⟨⟨#[119,97,105,116]⟩,⟨#[103,45]⟩⟩,⟨⟨#[115,108,101,101,112]⟩,⟨#[114,45]⟩⟩,⟨⟨#[112,97,110,105,99]⟩,⟨#[45,45]⟩⟩]
def fX:List ByteArray:=[⟨#[]⟩,⟨#[114,110]⟩,⟨#[114,114]⟩,⟨#[114,114]⟩,⟨#[114,114]⟩,⟨#[114,114]⟩,⟨#[99,45]⟩,⟨#[114,99]⟩,⟨#[114,45]⟩,⟨#[45,45]⟩,⟨#[45,45]⟩,⟨#[99,114]⟩,⟨#[114,109]⟩,⟨#[109,114]⟩,⟨#[112,114]⟩,⟨#[114,112]⟩,⟨#[112,45]⟩,⟨#[108,107]⟩,⟨#[108,107]⟩,⟨#[103,114]⟩,⟨#[103,45]⟩,⟨#[114,45]⟩,⟨#[45,45]⟩]
def ny (a b:Int):Option (cC):=(some ((cC.mk a b)))
def rO (p:cx) (k x:Int):Option (Bool):=(bif (k==110) then (some (true)) else (some (((decide ((0:Int)<=x))&&(decide (x<(fU [(114,8),(99,(p.Code.length:Int)),(109,p.Cells),(112,(p.Pipes.length:Int)),(108,p.Locks),(103,p.Groups),(107,2),(45,1)] k)))))))
def pD (a:Int) (b:Bool):Option (((Int) ⊕ (cC))):=(bif b then ((ny 5 a).bind λc=>(Option.map Sum.inr (some (c)))) else (some (Sum.inl ((i64.wrap (a+1))))))
def jh (p:cx):Int->Option (((Int) ⊕ (cC))):=λa=>(bif (decide (a<(p.Code.length:Int))) then (bif ((decide ((0:Int)<=a))&&(decide (a<(p.Code.length:Int)))) then (bif ((decide ((ix p.Code a).Op<1))||(decide ((23:Int)<=(ix p.Code a).Op))) then ((ny 4 a).bind λc=>(Option.map Sum.inr (some (c)))) else (bif ((decide ((0:Int)<=(ix p.Code a).Op))&&(decide ((ix p.Code a).Op<(ie.length:Int)))) then (bif (decide ((0:Int)<((((ix ie (ix p.Code a).Op).args).size:Nat):Int))) then ((rO p ((((ix ie (ix p.Code a).Op).args).data.getD ((0:Int)).toNat 0).toNat:Int) (ix p.Code a).A).bind λb=>(bif (!b) then (pD a true) else (bif (decide ((1:Int)<((((ix ie (ix p.Code a).Op).args).size:Nat):Int))) then ((rO p ((((ix ie (ix p.Code a).Op).args).data.getD ((1:Int)).toNat 0).toNat:Int) (ix p.Code a).B).bind λd=>(pD a (!d))) else none))) else none) else none)) else none) else (Option.map Sum.inr (some ((cC.mk 0 0)))))
def mf (p:cx):Int->Option (((Int) ⊕ (cC))):=λa=>(bif (decide (a<(p.Pipes.length:Int))) then (bif ((decide ((0:Int)<=a))&&(decide (a<(p.Pipes.length:Int)))) then (bif ((decide ((ix p.Pipes a)<0))||(decide ((100:Int)<(ix p.Pipes a)))) then ((ny 8 a).bind λb=>(Option.map Sum.inr (some (b)))) else (some (Sum.inl ((i64.wrap (a+1)))))) else none) else (Option.map Sum.inr (dD (jh p) (0))))
def qo (p:cx):Option (cC):=(bif ((decide ((1000:Int)<(p.Code.length:Int)))||(decide ((20:Int)<(p.Pipes.length:Int)))) then ((ny 2 0).bind λb=>(some (b))) else (bif ((decide ((min (min p.Cells p.Locks) p.Groups)<0))||(decide ((20:Int)<(max (max p.Cells p.Locks) p.Groups)))) then ((ny 3 0).bind λa=>(some (a))) else (dD (mf p) (0))))
def pp (a b:Int):Option (cC):=(some ((cC.mk a b)))
def ki (p:cx) (c:List bV):Int×(List cQ)->Option (((Int×List cQ) ⊕ ((List Int)×List task×List bV×List Int×List cQ×List di×List cX))):=λ(a,b)=>(bif (decide (a<(p.Pipes.length:Int))) then (bif ((decide ((0:Int)<=a))&&(decide (a<(p.Pipes.length:Int)))) then (bif (decide ((b++([(cQ.mk (ix p.Pipes a) [] false [] [])]:List cQ)).length*88<=140737488355328)) then (some (Sum.inl ((i64.wrap (a+1)),(b++([(cQ.mk (ix p.Pipes a) [] false [] [])]:List cQ))))) else none) else none) else (Option.map Sum.inr (bif (decide (0<=p.Locks/\p.Locks<=4611686018427387904/\(40:Int)*p.Locks<=140737488355328)) then (bif (decide (0<=p.Groups/\p.Groups<=4611686018427387904/\(32:Int)*p.Groups<=140737488355328)) then (some ((List.replicate (p.Cells).toNat (default:Int)),([((task.mk 0 (default:(dm 8)) 0 0 0):task)]:List task),c,([1]:List Int),b,(List.replicate (p.Locks).toNat (default:di)),(List.replicate (p.Groups).toNat (default:cX)))) else none) else none)))
def kj (p:cx) (c:Int):Int×(List bV)->Option (((Int×List bV) ⊕ ((List Int)×List task×List bV×List Int×List cQ×List di×List cX))):=λ(a,b)=>(bif (decide (a<c)) then (bif (decide ((b++[((bV.mk 0 0 []):bV)]).length*8<=140737488355328)) then (some (Sum.inl ((i64.wrap (a+1)),(b++[((bV.mk 0 0 []):bV)])))) else none) else (Option.map Sum.inr (dD (ki p b) (0,[]))))
def lU (p:cx) (a:Int):Option ((List Int)×List task×List bV×List Int×List cQ×List di×List cX):=(bif (decide (0<=p.Cells/\p.Cells<=4611686018427387904/\(8:Int)*p.Cells<=140737488355328)) then (dD (kj p a) (0,[])) else none)
def iB (m:(List (PT task))) (t:Int):Option (task):=(bif ((decide ((0:Int)<=(i64.wrap (t-1))))&&(decide ((i64.wrap (t-1))<(m.length:Int)))) then (some ((ix m (i64.wrap (t-1))).x)) else none)
def nL (x:Int):Option (Bool):=(some ((x != x)))
def kU (x y:Int):Option (Int):=((nL x).bind λb=>((nL y).bind λa=>(bif b then (bif a then (some (0)) else (some ((-1)))) else (bif a then (some (1)) else (bif (decide (x<y)) then (some ((-1))) else (bif (decide (y<x)) then (some (1)) else (some (0))))))))
def pE (b:List Int):Int->Option (((Int) ⊕ (Int))):=λa=>(bif (decide (a<(b.length:Int))) then (bif ((decide ((0:Int)<=a))&&(decide (a<(b.length:Int)))) then (bif ((ix b a) != 0) then (Option.map Sum.inr (some ((ix b a)))) else (some (Sum.inl ((i64.wrap (a+1)))))) else none) else (Option.map Sum.inr (some (0))))
def qp (a:List Int):Option (Int):=(dD (pE a) (0))
def eF (j b:Int) (i:(List (PT task))):Option (Int):=((iB i j).bind λe=>((iB i b).bind λa=>((kU e.when a.when).bind λf=>((iB i j).bind λg=>((iB i b).bind λh=>((kU g.seq h.seq).bind λc=>((qp ([f,c]:List Int)).bind λd=>(some (d)))))))))
def km (c0:List Int) (ts:(List (PT task))):Option (List Int):=open Classical in if (∀ a b:Int,1<=a/\a<=((((c0.foldl max 0).toNat):Nat):Int)->1<=b/\b<=((((c0.foldl max 0).toNat):Nat):Int)->(eF a b ts).isSome=true)/\Go.Sort.SWO (Go.Proofs.ltOf λ(a b:Rg ((c0.foldl max 0).toNat))=>(λa b:Int=>(eF a b ts).getD 0) a.1 b.1)/\(∀ x∈c0,1<=x/\x<=((((c0.foldl max 0).toNat):Nat):Int))/\c0.length<4611686018427387904 then some (oT ((c0.foldl max 0).toNat) (λa b:Int=>(eF a b ts).getD 0) c0) else none
def iO (c:Int) (b:List task) (a:List Int):Option (((Int×List task×List Int) ⊕ (Int×List Int×List task))):=(some (Sum.inl ((i64.wrap (c+1)),b,a)))
def kb (c:Int) (g:List task) (f:List Int):Int×List task×(List Int)->Option (((Int×List task×List Int) ⊕ (Int×List Int×List task))):=λ(a,b,d)=>(bif (decide (a<(g.length:Int))) then (bif ((decide ((0:Int)<=a))&&(decide (a<(b.length:Int)))) then (bif (((ix b a).state==2)&&(decide ((ix b a).when<=(i64.wrap (c+1))))) then (bif (decide ((d++([(i64.wrap (a+1))]:List Int)).length*8<=140737488355328)) then (iO a (b.set a.toNat ((task.mk (ix b a).pc (ix b a).r 0 (ix b a).when (ix b a).seq):task)) (d++([(i64.wrap (a+1))]:List Int))) else none) else (iO a b d)) else none) else (Option.map Sum.inr ((km d (b.map PT.mk)).bind λe=>(bif (decide (e.length=d.length)) then (bif (decide ((f++e).length*8<=140737488355328)) then (some ((i64.wrap (c+1)),(f++e),b)) else none) else none))))
def jU (a:Int) (b:List task) (c:List Int):Option (Int×List Int×List task):=(dD (kb a b c) (0,b,[]))
def ii (a b:Int):Option (cC):=(some ((cC.mk a b)))
def mg (q:fy):Int×(List (Int×Int))->Option (((Int×(List (Int×Int))) ⊕ (cC))):=λ(a,b)=>(bif (decide (a<(q.List.length:Int))) then (bif ((decide ((0:Int)<=a))&&(decide (a<(q.List.length:Int)))) then (bif (decide ((ix q.List a)<1)) then ((ii 3 (i64.wrap (a+1))).bind λd=>(Option.map Sum.inr (some (d)))) else (bif (decide ((0:Int)<(fU b (ix q.List a)))) then ((ii 10 (i64.wrap (a+1))).bind λc=>(Option.map Sum.inr (some (c)))) else (some (Sum.inl ((i64.wrap (a+1)),(iw b (ix q.List a) 1)))))) else none) else (Option.map Sum.inr (some ((cC.mk 0 0)))))
def nM (q:fy) (a:(List (Int×Int))):Option (cC):=(dD (mg q) (0,a))
def kD (q:fy):Option (cC):=(bif (decide ((256:Int)<(q.List.length:Int))) then ((ii 2 0).bind λb=>(some (b))) else (bif (decide (q.Next<0)) then ((ii 3 0).bind λa=>(some (a))) else (bif (decide ((0:Int)<q.Next)) then (nM q (iw [] q.Next 1)) else (nM q []))))
def fd (s:List Int):Option ((List Int)):=(bif (decide ((([]:List Int)++s).length*8<=140737488355328)) then (some ((([]:List Int)++s))) else none)
def kE (q:fy):Option ((List Int)):=((fd q.List).bind λa=>(some (a)))
def iZ (q:fy):Option (Int×Int×cC×List Int):=((kD q).bind λb=>(bif (b.Code != 0) then (some (0,0,b,[])) else ((kE q).bind λa=>(bif (decide ((0:Int)<q.Next)) then (some (0,q.Next,(cC.mk 0 0),a)) else (bif ((a.length:Int)==0) then ((ii 6 0).bind λc=>(some (0,0,c,[]))) else (bif (decide ((0:Int)<(a.length:Int))) then (bif (decide ((1:Int)<=(a.length:Int))) then ((fd (cut a (1:Int) (a.length:Int))).bind λd=>(some (q.Next,(ix a (0:Int)),(cC.mk 0 0),d))) else none) else none))))))
def fK (c:Int) (b:cC) (a:List bV):Option (Bool×List bV):=(bif (decide (0<=c/\c<(a.length:Int))) then (some ((b.Code==0),a)) else none)
def dT (b:Int) (c:List bV):Option (Bool×List bV):=(bif (decide (0<=b/\b<(c.length:Int))) then ((iZ (fy.mk (ix c b).Ring_Next (ix c b).Ring_List)).bind λa=>((λz0:List bV=>(bif (a.2.2.1.Code==0) then (fK b a.2.2.1 (z0.set b.toNat ((bV.mk a.2.1 (ix z0 b).Ring_Next (ix z0 b).Ring_List):bV))) else (fK b a.2.2.1 c))) (c.set b.toNat ((bV.mk (ix c b).now a.1 a.2.2.2):bV)))) else none)
def mM (q:fy):Option ((List Int)):=(bif (decide ((0:Int)<q.Next)) then (bif (decide ((([q.Next]:List Int)++q.List).length*8<=140737488355328)) then (some ((([q.Next]:List Int)++q.List))) else none) else ((fd q.List).bind λa=>(some (a))))
def nA (b:List Int):Int×(List (Int×Int))->Option (((Int×(List (Int×Int))) ⊕ (Int))):=λ(a,c)=>(bif (decide (a<(b.length:Int))) then (bif ((decide ((0:Int)<=a))&&(decide (a<(b.length:Int)))) then (bif (decide ((0:Int)<(fU c (ix b a)))) then (Option.map Sum.inr (some (a))) else (some (Sum.inl ((i64.wrap (a+1)),(iw c (ix b a) 1))))) else none) else (Option.map Sum.inr (some ((-1)))))
def nB (d b:List Int):Int×(List (Int×Int))->Option (((Int×(List (Int×Int))) ⊕ (Int))):=λ(a,c)=>(bif (decide (a<(d.length:Int))) then (bif ((decide ((0:Int)<=a))&&(decide (a<(d.length:Int)))) then (some (Sum.inl ((i64.wrap (a+1)),(iw c (ix d a) 1)))) else none) else (Option.map Sum.inr (dD (nA b) (0,c))))
def mh (a b:List Int):Option (Int):=(dD (nB a b) (0,[]))
def kx (q:fy) (a:Int) (c:List Int):Int->Option (((Int) ⊕ (Int×cC×List Int×List Int))):=λb=>(bif (decide (b<(c.length:Int))) then (bif ((decide ((0:Int)<=b))&&(decide (b<(c.length:Int)))) then (bif (decide ((ix c b)<1)) then ((ii 5 b).bind λh=>(Option.map Sum.inr (some (0,h,[],[])))) else (some (Sum.inl ((i64.wrap (b+1)))))) else none) else (Option.map Sum.inr ((mM q).bind λg=>((mh g c).bind λd=>(bif (decide ((0:Int)<=d)) then ((ii 8 d).bind λf=>(some (0,f,[],[]))) else (bif ((decide (a<1))||(decide ((64:Int)<a))) then ((ii 3 (-1)).bind λi=>(some (0,i,[],[]))) else (bif (a != 0) then ((kE q).bind λe=>(bif ((decide ((0:Int)<=(min (min (min (i64.wrap ((i64.wrap (Int.tdiv (c.length:Int) a))+1)) (c.length:Int)) 128) (i64.wrap ((256:Int)-(q.List.length:Int))))))&&(decide ((min (min (min (i64.wrap ((i64.wrap (Int.tdiv (c.length:Int) a))+1)) (c.length:Int)) 128) (i64.wrap ((256:Int)-(q.List.length:Int))))<=(c.length:Int)))) then (bif (decide ((e++(cut c (0:Int) (min (min (min (i64.wrap ((i64.wrap (Int.tdiv (c.length:Int) a))+1)) (c.length:Int)) 128) (i64.wrap ((256:Int)-(q.List.length:Int)))))).length*8<=140737488355328)) then (bif ((decide ((0:Int)<=(min (min (min (i64.wrap ((i64.wrap (Int.tdiv (c.length:Int) a))+1)) (c.length:Int)) 128) (i64.wrap ((256:Int)-(q.List.length:Int))))))&&(decide ((min (min (min (i64.wrap ((i64.wrap (Int.tdiv (c.length:Int) a))+1)) (c.length:Int)) 128) (i64.wrap ((256:Int)-(q.List.length:Int))))<=(c.length:Int)))) then ((fd (cut c (min (min (min (i64.wrap ((i64.wrap (Int.tdiv (c.length:Int) a))+1)) (c.length:Int)) 128) (i64.wrap ((256:Int)-(q.List.length:Int)))) (c.length:Int))).bind λj=>(some (q.Next,(cC.mk 0 0),(e++(cut c (0:Int) (min (min (min (i64.wrap ((i64.wrap (Int.tdiv (c.length:Int) a))+1)) (c.length:Int)) 128) (i64.wrap ((256:Int)-(q.List.length:Int)))))),j))) else none) else none) else none)) else none)))))))
def ji (q:fy) (b:Int) (d:List Int):Option (Int×cC×List Int×List Int):=((kD q).bind λa=>(bif (a.Code != 0) then (some (0,a,[],[])) else (bif (decide ((5000:Int)<(d.length:Int))) then ((ii 2 (-1)).bind λc=>(some (0,c,[],[]))) else (dD (kx q b d) (0)))))
def jk (c f:fy) (l:Bool):Int->Option (((Int) ⊕ (Int×Int×Int×cC×List Int×List Int))):=λd=>(bif (decide (d<((([c,f]:List fy).length:Nat):Int))) then (bif ((decide ((0:Int)<=d))&&(decide (d<((([c,f]:List fy).length:Nat):Int)))) then ((kD (ix ([c,f]:List fy) d)).bind λe=>(bif (e.Code != 0) then (Option.map Sum.inr (some (0,0,0,e,[],[]))) else (some (Sum.inl ((i64.wrap (d+1))))))) else none) else (Option.map Sum.inr ((mM c).bind λk=>((mM f).bind λg=>((mh k g).bind λj=>(bif (decide ((0:Int)<=j)) then ((ii 8 0).bind λi=>(some (0,0,0,i,[],[]))) else ((kE c).bind λa=>((kE f).bind λb=>(bif ((a.length:Int)==0) then (bif ((!l)||((c.Next==0)||((i64.wrap ((256:Int)-(b.length:Int)))==0))) then (some (c.Next,f.Next,0,(cC.mk 0 0),a,b)) else (bif (decide ((b++([c.Next]:List Int)).length*8<=140737488355328)) then (some (0,f.Next,1,(cC.mk 0 0),a,(b++([c.Next]:List Int)))) else none)) else (bif ((decide ((0:Int)<=(min (i64.wrap ((a.length:Int)-(i64.wrap (Int.tdiv (a.length:Int) 2)))) (i64.wrap ((256:Int)-(b.length:Int))))))&&(decide ((min (i64.wrap ((a.length:Int)-(i64.wrap (Int.tdiv (a.length:Int) 2)))) (i64.wrap ((256:Int)-(b.length:Int))))<=(a.length:Int)))) then (bif (decide ((b++(cut a (0:Int) (min (i64.wrap ((a.length:Int)-(i64.wrap (Int.tdiv (a.length:Int) 2)))) (i64.wrap ((256:Int)-(b.length:Int)))))).length*8<=140737488355328)) then (bif ((decide ((0:Int)<=(min (i64.wrap ((a.length:Int)-(i64.wrap (Int.tdiv (a.length:Int) 2)))) (i64.wrap ((256:Int)-(b.length:Int))))))&&(decide ((min (i64.wrap ((a.length:Int)-(i64.wrap (Int.tdiv (a.length:Int) 2)))) (i64.wrap ((256:Int)-(b.length:Int))))<=(a.length:Int)))) then ((fd (cut a (min (i64.wrap ((a.length:Int)-(i64.wrap (Int.tdiv (a.length:Int) 2)))) (i64.wrap ((256:Int)-(b.length:Int)))) (a.length:Int))).bind λh=>(some (c.Next,f.Next,(min (i64.wrap ((a.length:Int)-(i64.wrap (Int.tdiv (a.length:Int) 2)))) (i64.wrap ((256:Int)-(b.length:Int)))),(cC.mk 0 0),h,(b++(cut a (0:Int) (min (i64.wrap ((a.length:Int)-(i64.wrap (Int.tdiv (a.length:Int) 2)))) (i64.wrap ((256:Int)-(b.length:Int))))))))) else none) else none) else none))))))))))
def nC (b c:fy) (a:Bool):Option (Int×Int×Int×cC×List Int×List Int):=(dD (jk b c a) (0))
def kc (p:Int) (e:List Int):Int×(List bV)->Option (((Int×List bV) ⊕ (Bool×List Int×List bV))):=λ(d,a)=>(bif (decide (0<=p/\p<(a.length:Int))) then (bif (decide (d<(a.length:Int))) then (bif ((a.length:Int) != 0) then (bif ((decide ((0:Int)<=(Int.tmod (i64.wrap (p+d)) (a.length:Int))))&&(decide ((Int.tmod (i64.wrap (p+d)) (a.length:Int))<(a.length:Int)))) then ((nC (fy.mk (ix a (Int.tmod (i64.wrap (p+d)) (a.length:Int))).Ring_Next (ix a (Int.tmod (i64.wrap (p+d)) (a.length:Int))).Ring_List) (fy.mk (ix a p).Ring_Next (ix a p).Ring_List) true).bind λb=>(bif (decide ((0:Int)<b.2.2.1)) then ((λz0:List bV=>((λz1:List bV=>((dT p z1).bind λc=>(bif (decide (c.2.length=z1.length)) then (bif (decide (0<=p/\p<(c.2.length:Int))) then (Option.map Sum.inr (some (c.1,e,c.2))) else none) else none))) (z0.set p.toNat ((bV.mk (ix z0 p).now b.2.1 b.2.2.2.2.2):bV)))) (a.set (Int.tmod (i64.wrap (p+d)) (a.length:Int)).toNat ((bV.mk (ix a (Int.tmod (i64.wrap (p+d)) (a.length:Int))).now b.1 b.2.2.2.2.1):bV))) else (some (Sum.inl ((i64.wrap (d+1)),a))))) else none) else none) else (Option.map Sum.inr (some (false,e,a)))) else none)
def gm (p:Int) (e:List bV) (d:List Int):Option (Bool×List Int×List bV):=(bif ((decide ((0:Int)<=p))&&(decide (p<(e.length:Int)))) then ((dT p e).bind λa=>(bif (decide (a.2.length=e.length)) then (bif (decide (0<=p/\p<(a.2.length:Int))) then (bif a.1 then (some (true,d,a.2)) else (bif (decide ((0:Int)<(d.length:Int))) then ((ji (fy.mk (ix a.2 p).Ring_Next (ix a.2 p).Ring_List) (a.2.length:Int) d).bind λb=>((λz0:List bV=>((dT p z0).bind λc=>(bif (decide (c.2.length=z0.length)) then (bif (decide (0<=p/\p<(c.2.length:Int))) then (some (c.1,b.2.2.2,c.2)) else none) else none))) (a.2.set p.toNat ((bV.mk (ix a.2 p).now b.1 b.2.2.1):bV)))) else (dD (kc p d) (1,a.2)))) else none) else none)) else none)
def dK (t:Int) (a:List task):Option (Int):=(bif ((decide ((0:Int)<=(i64.wrap (t-1))))&&(decide ((i64.wrap (t-1))<(a.length:Int)))) then (some ((i64.wrap (t-1)))) else none)
def oU (a:Int):Option (Bool):=(some (((decide ((1:Int)<=a))&&(decide (a<=7)))))
def gH (b:Int) (a:List task):Option (Int×List task):=(some ((i64.wrap (b+1)),a))
def mj (c:df) (d b:Int) (a:List task):Option (Int×List task):=(bif (decide (0<=b/\b<(a.length:Int))) then (bif (c.Op==1) then (bif ((decide ((0:Int)<=c.A))&&(decide (c.A<((8:Nat):Int)))) then (gH d (a.set b.toNat ((task.mk (ix a b).pc ((ix a b).r.set c.A c.B) (ix a b).state (ix a b).when (ix a b).seq):task))) else none) else (bif (c.Op==2) then (bif ((decide ((0:Int)<=c.B))&&(decide (c.B<((8:Nat):Int)))) then (bif ((decide ((0:Int)<=c.A))&&(decide (c.A<((8:Nat):Int)))) then (gH d (a.set b.toNat ((task.mk (ix a b).pc ((ix a b).r.set c.A ((ix a b).r.get c.B)) (ix a b).state (ix a b).when (ix a b).seq):task))) else none) else none) else (bif (c.Op==3) then (bif ((decide ((0:Int)<=c.A))&&(decide (c.A<((8:Nat):Int)))) then (bif ((decide ((0:Int)<=c.B))&&(decide (c.B<((8:Nat):Int)))) then (gH d (a.set b.toNat ((task.mk (ix a b).pc ((ix a b).r.set c.A (i64.wrap (((ix a b).r.get c.A)+((ix a b).r.get c.B)))) (ix a b).state (ix a b).when (ix a b).seq):task))) else none) else none) else (bif (c.Op==4) then (bif ((decide ((0:Int)<=c.A))&&(decide (c.A<((8:Nat):Int)))) then (bif ((decide ((0:Int)<=c.B))&&(decide (c.B<((8:Nat):Int)))) then (gH d (a.set b.toNat ((task.mk (ix a b).pc ((ix a b).r.set c.A (i64.wrap (((ix a b).r.get c.A)-((ix a b).r.get c.B)))) (ix a b).state (ix a b).when (ix a b).seq):task))) else none) else none) else (bif (c.Op==5) then (bif ((decide ((0:Int)<=c.A))&&(decide (c.A<((8:Nat):Int)))) then (bif ((decide ((0:Int)<=c.B))&&(decide (c.B<((8:Nat):Int)))) then (gH d (a.set b.toNat ((task.mk (ix a b).pc ((ix a b).r.set c.A (mV [(true,1)] (decide (((ix a b).r.get c.A)<((ix a b).r.get c.B))))) (ix a b).state (ix a b).when (ix a b).seq):task))) else none) else none) else (bif (c.Op==6) then (some (c.A,a)) else (bif (c.Op==7) then (bif ((decide ((0:Int)<=c.A))&&(decide (c.A<((8:Nat):Int)))) then (bif (((ix a b).r.get c.A)==0) then (some (c.B,a)) else (gH d a)) else none) else (gH d a)))))))) else none)
def dq (t c b a:Int) (d:List cy):Option ((List cy)):=(bif (decide ((d++([(cy.mk t c b a)]:List cy)).length*32<=140737488355328)) then (some ((d++([(cy.mk t c b a)]:List cy)))) else none)
def i4 (c t:Int) (b:List task) (d:List bV) (e:List Int):Option (Bool×List Int×List task×List bV):=(bif (decide (0<=c/\c<(d.length:Int))) then ((dK t b).bind λa=>(bif (decide (0<=a/\a<(b.length:Int))) then (bif (decide ((e++([t]:List Int)).length*8<=140737488355328)) then (some (false,(e++([t]:List Int)),(b.set a.toNat ((task.mk (i64.wrap ((ix b a).pc+1)) (ix b a).r (ix b a).state (ix b a).when (ix b a).seq):task)),(d.set c.toNat ((bV.mk 0 (ix d c).Ring_Next (ix d c).Ring_List):bV)))) else none) else none)) else none)
def i5 (s:List Int) (v:Int):Int->Option (((Int) ⊕ (Int))):=λa=>(bif (decide (a<(s.length:Int))) then (bif ((decide ((0:Int)<=a))&&(decide (a<(s.length:Int)))) then (bif (v==(ix s a)) then (Option.map Sum.inr (some (a))) else (some (Sum.inl ((i64.wrap (a+1)))))) else none) else (Option.map Sum.inr (some ((-1)))))
def nD (s:List Int) (v:Int):Option (Int):=(dD (i5 s v) (0))
def ig (s:List Int) (v:Int):Option (Bool):=((nD s v).bind λa=>(some ((decide ((0:Int)<=a)))))
def rp (t:Int) (b:List Int):Option ((List Int)×List Int):=(bif (decide ((b.length:Int)<256)) then (bif (decide ((b++([t]:List Int)).length*8<=140737488355328)) then (some ([],(b++([t]:List Int)))) else none) else (bif (decide ((128:Int)<=(b.length:Int))) then ((fd (cut b (0:Int) (128:Int))).bind λa=>(bif (decide ((a++([t]:List Int)).length*8<=140737488355328)) then (bif (decide ((128:Int)<=(b.length:Int))) then ((fd (cut b (128:Int) (b.length:Int))).bind λc=>(some ((a++([t]:List Int)),c))) else none) else none)) else none))
def pq (c a:Int) (d:List Int):Option (Int×cC×List Int×List Int):=((rp c d).bind λb=>(some (a,(cC.mk 0 0),b.2,b.1)))
def qW (q:fy) (a:Int) (g:Bool):Option (Int×cC×List Int×List Int):=((kD q).bind λc=>(bif (c.Code != 0) then (some (0,c,[],[])) else (bif (decide (a<1)) then ((ii 3 (-1)).bind λf=>(some (0,f,[],[]))) else ((mM q).bind λh=>((ig h a).bind λd=>(bif d then ((ii 10 (-1)).bind λe=>(some (0,e,[],[]))) else ((kE q).bind λb=>(bif g then (bif (q.Next==0) then (some (a,(cC.mk 0 0),b,[])) else (pq q.Next a b)) else (pq a q.Next b)))))))))
def i6 (d t:Int) (c:List task) (e:List bV) (f:List Int):Option ((List Int)×List task×List bV):=(bif (decide (0<=d/\d<(e.length:Int))) then ((qW (fy.mk (ix e d).Ring_Next (ix e d).Ring_List) t true).bind λb=>(bif (decide ((f++b.2.2.2).length*8<=140737488355328)) then ((dK t c).bind λa=>(bif (decide (0<=a/\a<(c.length:Int))) then (some ((f++b.2.2.2),(c.set a.toNat ((task.mk (ix c a).pc (ix c a).r 0 (ix c a).when (ix c a).seq):task)),(e.set d.toNat ((bV.mk (ix e d).now b.1 b.2.2.1):bV)))) else none)) else none)) else none)
def jl (a b:Int):Option (cC):=(some ((cC.mk a b)))
def pF (l:List cJ):Int×(List (Int×Int))->Option (((Int×(List (Int×Int))) ⊕ (Int×(List (Int×Int))))):=λ(a,b)=>(bif (decide (a<(l.length:Int))) then (bif ((decide ((0:Int)<=a))&&(decide (a<(l.length:Int)))) then (bif ((decide ((ix l a).Task<1))||(decide ((ix l a).Case<0))) then (Option.map Sum.inr (some (3,b))) else (bif (decide ((0:Int)<(fU b (ix l a).Task))) then (Option.map Sum.inr (some (10,b))) else (some (Sum.inl ((i64.wrap (a+1)),(iw b (ix l a).Task 1)))))) else none) else (Option.map Sum.inr (some (0,b))))
def qq (l:List cJ) (a:(List (Int×Int))):Option (Int×(List (Int×Int))):=(dD (pF l) (0,a))
def nN (p:cQ):Int->Option (((Int) ⊕ (cC))):=λa=>(bif (decide (a<(p.Getters.length:Int))) then (bif ((decide ((0:Int)<=a))&&(decide (a<(p.Getters.length:Int)))) then (bif ((ix p.Getters a).Value != 0) then ((jl 5 2).bind λb=>(Option.map Sum.inr (some (b)))) else (some (Sum.inl ((i64.wrap (a+1)))))) else none) else (Option.map Sum.inr (some ((cC.mk 0 0)))))
def oV (p:cQ):Option (cC):=(bif (decide ((5000:Int)<(i64.wrap ((i64.wrap ((p.Items.length:Int)+(p.Senders.length:Int)))+(p.Getters.length:Int))))) then ((jl 2 0).bind λg=>(some (g))) else (bif ((decide (p.Cap<0))||(decide ((1000:Int)<p.Cap))) then ((jl 3 0).bind λe=>(some (e))) else (bif (decide (p.Cap<(p.Items.length:Int))) then ((jl 8 0).bind λc=>(some (c))) else (bif (bif (decide ((0:Int)<(p.Senders.length:Int))) then (p.Closed||((decide ((p.Items.length:Int)<p.Cap))||((decide ((0:Int)<(p.Getters.length:Int)))||((decide ((0:Int)<(p.Getters.length:Int)))&&(p.Closed||(decide ((0:Int)<(p.Items.length:Int)))))))) else ((decide ((0:Int)<(p.Getters.length:Int)))&&(p.Closed||(decide ((0:Int)<(p.Items.length:Int)))))) then ((jl 5 0).bind λd=>(some (d))) else ((qq p.Senders []).bind λa=>(bif (a.1 != 0) then ((jl a.1 1).bind λf=>(some (f))) else ((qq p.Getters a.2).bind λb=>(bif (b.1 != 0) then ((jl b.1 2).bind λh=>(some (h))) else (dD (nN p) (0))))))))))
def qr (x:cJ) (a:Int):Option (Bool):=(some ((x.Task==a)))
def iC (s:List cJ) (f:Int):Int->Option (((Int) ⊕ (Int))):=λa=>(bif (decide (a<(s.length:Int))) then (bif ((decide ((0:Int)<=a))&&(decide (a<(s.length:Int)))) then ((qr (ix s a) f).bind λb=>(bif b then (Option.map Sum.inr (some (a))) else (some (Sum.inl ((i64.wrap (a+1))))))) else none) else (Option.map Sum.inr (some ((-1)))))
def kW (s:List cJ) (f:Int):Option (Int):=(dD (iC s f) (0))
def gL (s:List cJ) (f:Int):Option (Bool):=((kW s f).bind λa=>(some ((decide ((0:Int)<=a)))))
def nO (a:Bool):Option (Bool):=(some (a))
def sA (p:cQ) (a:Int):Option (Bool):=((gL p.Senders a).bind λb=>(bif b then (nO true) else ((gL p.Getters a).bind λc=>(nO c))))
def oW (p:cQ) (b:Int):Option (cC):=((oV p).bind λa=>(bif (a.Code != 0) then (some (a)) else (bif (decide (b<1)) then ((jl 3 (-1)).bind λc=>(some (c))) else ((sA p b).bind λd=>(bif d then ((jl 10 (-1)).bind λe=>(some (e))) else (bif ((i64.wrap ((i64.wrap ((p.Items.length:Int)+(p.Senders.length:Int)))+(p.Getters.length:Int)))==5000) then ((jl 9 0).bind λf=>(some (f))) else (some ((cC.mk 0 0)))))))))
def j8 (s:List cJ):Option ((List cJ)):=(bif (decide ((([]:List cJ)++s).length*24<=140737488355328)) then (some ((([]:List cJ)++s))) else none)
def oG (p:cQ):Option ((List Int)×List cJ×List cJ):=((fd p.Items).bind λb=>((j8 p.Senders).bind λc=>((j8 p.Getters).bind λa=>(some (b,c,a)))))
def sB (x:cJ) (c:Int) (a:Bool) (d:List Int) (b:List cJ):Option (Bool×Bool×Int×List de×List Int×List cJ):=(bif a then (some (true,true,x.Case,[],d,b)) else (bif (decide ((0:Int)<(b.length:Int))) then (bif (decide ((0:Int)<(b.length:Int))) then (bif (decide ((1:Int)<=(b.length:Int))) then (some (true,false,x.Case,([(de.mk (ix b (0:Int)).Task (ix b (0:Int)).Case x.Value true false)]:List de),d,(cut b (1:Int) (b.length:Int)))) else none) else none) else (bif (decide ((d.length:Int)<c)) then (bif (decide ((d++([x.Value]:List Int)).length*8<=140737488355328)) then (some (true,false,x.Case,[],(d++([x.Value]:List Int)),b)) else none) else (some (false,false,0,[],d,b)))))
def oH (p:cQ) (c a:Bool) (b:Int) (g:List Int) (d e:List cJ) (f:List de):Option (Int×Bool×Bool×Bool×Int×cC×List Int×List cJ×List cJ×List de):=(some (p.Cap,p.Closed,c,a,b,(cC.mk 0 0),g,d,e,f))
def mD (p:cQ) (c d:Int) (f:Bool):Option (Int×Bool×Bool×Bool×Int×cC×List Int×List cJ×List cJ×List de):=((oW p c).bind λe=>(bif (e.Code != 0) then (some (0,false,false,false,0,e,[],[],[],[])) else ((oG p).bind λb=>((sB (cJ.mk c 0 d) p.Cap p.Closed b.1 b.2.2).bind λa=>(bif ((!a.1)&&(!f)) then (bif (decide ((b.2.1++([(cJ.mk c 0 d)]:List cJ)).length*24<=140737488355328)) then (oH p a.1 a.2.1 a.2.2.1 a.2.2.2.2.1 (b.2.1++([(cJ.mk c 0 d)]:List cJ)) a.2.2.2.2.2 a.2.2.2.1) else none) else (oH p a.1 a.2.1 a.2.2.1 a.2.2.2.2.1 b.2.1 a.2.2.2.2.2 a.2.2.2.1))))))
def dH (t b:Int) (c:List cy):Option ((List cy)):=((dq t 22 b 0 c).bind λa=>(some (a)))
def fY (t:Int) (b:List task):Option (Bool×List task):=((dK t b).bind λa=>(bif (decide (0<=a/\a<(b.length:Int))) then (some (false,(b.set a.toNat ((task.mk (ix b a).pc (ix b a).r 1 (ix b a).when (ix b a).seq):task)))) else none))
def gF (t:Int) (d:df) (c:Int) (g:Bool) (f:List cy) (b:List task):Option ((List cy)×List task):=((dK t b).bind λa=>(bif (decide (0<=a/\a<(b.length:Int))) then (bif ((decide ((0:Int)<=d.A))&&(decide (d.A<((8:Nat):Int)))) then ((dq t 15 d.B c f).bind λe=>((λz0:List task=>(some (e,(z0.set a.toNat ((task.mk (ix z0 a).pc ((ix z0 a).r.set (7:Int) (mV [(true,1)] g)) (ix z0 a).state (ix z0 a).when (ix z0 a).seq):task))))) (b.set a.toNat ((task.mk (ix b a).pc ((ix b a).r.set d.A c) (ix b a).state (ix b a).when (ix b a).seq):task)))) else none) else none))
def fV (d t:Int) (c:List task) (e:List bV) (f:List Int):Option ((List Int)×List task×List bV):=(bif (decide (0<=d/\d<(e.length:Int))) then ((dK t c).bind λa=>(bif (decide (0<=a/\a<(c.length:Int))) then ((i6 d t (c.set a.toNat ((task.mk (i64.wrap ((ix c a).pc+1)) (ix c a).r (ix c a).state (ix c a).when (ix c a).seq):task)) e f).bind λb=>(bif (decide (0<=d/\d<(b.2.2.length:Int))) then (some (b.1,b.2.1,b.2.2)) else none)) else none)) else none)
def hZ (g:Int) (l:List de) (b:Int) (d:List bV) (e:List Int) (f:List task) (c:List cy):Option (((Int×List task×List bV×List cy×List Int) ⊕ (Int×List cy×List Int×List task×List bV))):=(bif (decide (0<=g/\g<(d.length:Int))) then ((fV g (ix l b).Task f d e).bind λa=>(bif (decide (0<=g/\g<(a.2.2.length:Int))) then (some (Sum.inl ((i64.wrap (b+1)),a.2.1,a.2.2,c,a.1))) else none)) else none)
def eY (n p:Int) (l:List de) (a:List df) (e:Int):Int×List task×List bV×List cy×(List Int)->Option (((Int×List task×List bV×List cy×List Int) ⊕ (Int×List cy×List Int×List task×List bV))):=λ(c,b,h,g,f)=>(bif (decide (0<=n/\n<(h.length:Int))) then (bif (decide (c<(l.length:Int))) then (bif ((decide ((0:Int)<=c))&&(decide (c<(l.length:Int)))) then ((dK (ix l c).Task b).bind λd=>(bif (decide (0<=d/\d<(b.length:Int))) then (bif ((decide ((0:Int)<=(ix b d).pc))&&(decide ((ix b d).pc<(a.length:Int)))) then (bif (ix l c).Panic then ((dH (ix l c).Task p g).bind λk=>(Option.map Sum.inr (some (2,k,f,b,h)))) else (bif ((ix a (ix b d).pc).Op==14) then ((dK (ix l c).Task b).bind λi=>(bif (decide (0<=i/\i<(b.length:Int))) then (bif ((decide ((0:Int)<=(ix a (ix b d).pc).B))&&(decide ((ix a (ix b d).pc).B<((8:Nat):Int)))) then ((dq (ix l c).Task (ix a (ix b d).pc).Op p ((ix b i).r.get (ix a (ix b d).pc).B) g).bind λm=>(hZ n l c h f b m)) else none) else none)) else ((gF (ix l c).Task (ix a (ix b d).pc) (ix l c).Value (ix l c).Ok g b).bind λj=>(hZ n l c h f j.2 j.1)))) else none) else none)) else none) else (Option.map Sum.inr (some (e,g,f,b,h)))) else none)
def dF (c p:Int) (l:List de) (b:List df) (a:Int) (f:List cy) (e:List task) (d:List bV) (g:List Int):Option (Int×List cy×List Int×List task×List bV):=(bif (decide (0<=c/\c<(d.length:Int))) then (dD (eY c p l b a) (0,e,d,f,g)) else none)
def lh (x:cJ) (b:Bool) (a:List Int) (c:List cJ) (d:List de):Option (Bool×Bool×Int×Int×List de×List Int×List cJ):=(bif (decide ((0:Int)<(a.length:Int))) then (bif (decide ((0:Int)<(a.length:Int))) then (bif (decide ((1:Int)<=(a.length:Int))) then (some (true,true,(ix a (0:Int)),x.Case,d,(cut a (1:Int) (a.length:Int)),c)) else none) else none) else (bif b then (some (true,false,0,x.Case,[],a,c)) else (some (false,false,0,0,[],a,c))))
def sC (x:cJ) (a:Bool) (c:List Int) (b:List cJ):Option (Bool×Bool×Int×Int×List de×List Int×List cJ):=(bif (decide ((0:Int)<(b.length:Int))) then (bif (decide ((0:Int)<(b.length:Int))) then (bif (decide ((1:Int)<=(b.length:Int))) then (bif (decide ((c++([(ix b (0:Int)).Value]:List Int)).length*8<=140737488355328)) then (lh x a (c++([(ix b (0:Int)).Value]:List Int)) (cut b (1:Int) (b.length:Int)) ([(de.mk (ix b (0:Int)).Task (ix b (0:Int)).Case 0 false false)]:List de)) else none) else none) else none) else (lh x a c b []))
def pt (p:cQ) (c d:Bool) (a b:Int) (h:List Int) (e f:List cJ) (g:List de):Option (Int×Bool×Bool×Bool×Int×Int×cC×List Int×List cJ×List cJ×List de):=(some (p.Cap,p.Closed,c,d,a,b,(cC.mk 0 0),h,e,f,g))
def lV (p:cQ) (c:Int) (e:Bool):Option (Int×Bool×Bool×Bool×Int×Int×cC×List Int×List cJ×List cJ×List de):=((oW p c).bind λd=>(bif (d.Code != 0) then (some (0,false,false,false,0,0,d,[],[],[],[])) else ((oG p).bind λb=>((sC (cJ.mk c 0 0) p.Closed b.1 b.2.1).bind λa=>(bif ((!a.1)&&(!e)) then (bif (decide ((b.2.2++([(cJ.mk c 0 0)]:List cJ)).length*24<=140737488355328)) then (pt p a.1 a.2.1 a.2.2.1 a.2.2.2.1 a.2.2.2.2.2.1 a.2.2.2.2.2.2 (b.2.2++([(cJ.mk c 0 0)]:List cJ)) a.2.2.2.2.1) else none) else (pt p a.1 a.2.1 a.2.2.1 a.2.2.2.1 a.2.2.2.2.2.1 a.2.2.2.2.2.2 b.2.2 a.2.2.2.2.1))))))
def m6 (c:List cJ):Int×(List de)->Option (((Int×List de) ⊕ (Bool×List de×Bool×List cJ×List cJ))):=λ(a,b)=>(bif (decide (a<(c.length:Int))) then (bif ((decide ((0:Int)<=a))&&(decide (a<(c.length:Int)))) then (bif (decide ((b++([(de.mk (ix c a).Task (ix c a).Case 0 false true)]:List de)).length*32<=140737488355328)) then (some (Sum.inl ((i64.wrap (a+1)),(b++([(de.mk (ix c a).Task (ix c a).Case 0 false true)]:List de))))) else none) else none) else (Option.map Sum.inr (some (false,b,true,[],[]))))
def m7 (d c:List cJ):Int×(List de)->Option (((Int×List de) ⊕ (Bool×List de×Bool×List cJ×List cJ))):=λ(a,b)=>(bif (decide (a<(c.length:Int))) then (bif ((decide ((0:Int)<=a))&&(decide (a<(c.length:Int)))) then (bif (decide ((b++([(de.mk (ix c a).Task (ix c a).Case 0 false false)]:List de)).length*32<=140737488355328)) then (some (Sum.inl ((i64.wrap (a+1)),(b++([(de.mk (ix c a).Task (ix c a).Case 0 false false)]:List de))))) else none) else none) else (Option.map Sum.inr (dD (m6 d) (0,b))))
def rr (a:Bool) (c b:List cJ):Option (Bool×List de×Bool×List cJ×List cJ):=(bif a then (some (true,[],a,c,b)) else (dD (m7 c b) (0,[])))
def oI (p:cQ):Option (Int×Bool×Bool×Bool×cC×List Int×List cJ×List cJ×List de):=((oV p).bind λc=>(bif (c.Code != 0) then (some (0,false,false,false,c,[],[],[],[])) else ((oG p).bind λb=>((rr p.Closed b.2.1 b.2.2).bind λa=>(some (p.Cap,a.2.2.1,true,a.1,(cC.mk 0 0),b.1,a.2.2.2.1,a.2.2.2.2,a.2.1))))))
def d4 (a:Int) (b:List cy) (c:List Int) (d:List task) (f:List bV) (e:List cQ):Option (Bool×Int×List cy×List Int×List task×List bV×List cQ):=(some (true,a,b,c,d,f,e))
def eZ (k t:Int) (i:df) (c:List df) (m:List cQ) (a:Int) (l:List task) (g:List bV) (h:List cQ) (e:lk) (j:List cy) (f:List Int):Option (Bool×Int×List cy×List Int×List task×List bV×List cQ):=(bif (decide (0<=k/\k<(g.length:Int))) then ((gF t i e.Value e.Ok j l).bind λd=>(bif (decide ((0:Int)<(((ix m i.B).Items.length:Nat):Int))) then ((dF k i.B e.Wakes c a d.1 d.2 g f).bind λb=>(bif (decide (0<=k/\k<(b.2.2.2.2.length:Int))) then (d4 b.1 b.2.1 b.2.2.1 b.2.2.2.1 b.2.2.2.2 h) else none)) else (d4 a d.1 f d.2 g h))) else none)
def eD (n t:Int) (c:df) (d:List df) (b:Int) (q:List cy) (m:List task) (p:List bV) (s:List Int) (k:List cQ):Option (Bool×Int×List cy×List Int×List task×List bV×List cQ):=(bif (decide (0<=n/\n<(p.length:Int))) then ((dK t m).bind λh=>(bif (decide (0<=h/\h<(m.length:Int))) then (bif (c.Op==14) then (bif ((decide ((0:Int)<=c.A))&&(decide (c.A<(k.length:Int)))) then (bif ((decide ((0:Int)<=c.B))&&(decide (c.B<((8:Nat):Int)))) then ((mD (ix k c.A) t ((ix m h).r.get c.B) false).bind λe=>(bif ((decide ((0:Int)<=c.A))&&(decide (c.A<(k.length:Int)))) then ((λz1:List cQ=>(bif e.2.2.2.1 then ((dH t c.A q).bind λw=>(some (false,2,w,s,m,p,z1))) else (bif (!e.2.2.1) then ((fY t m).bind λl=>(bif (decide (0<=h/\h<(l.2.length:Int))) then (some (l.1,b,q,s,l.2,p,z1)) else none)) else ((dq t c.Op c.A ((ix m h).r.get c.B) q).bind λu=>((dF n c.A e.2.2.2.2.2.2.2.2.2 d b u m p s).bind λi=>(bif (decide (0<=n/\n<(i.2.2.2.2.length:Int))) then (d4 i.1 i.2.1 i.2.2.1 i.2.2.2.1 i.2.2.2.2 z1) else none)))))) (k.set c.A.toNat ((cQ.mk e.1 e.2.2.2.2.2.2.1 e.2.1 e.2.2.2.2.2.2.2.1 e.2.2.2.2.2.2.2.2.1):cQ))) else none)) else none) else none) else (bif (c.Op==15) then (bif ((decide ((0:Int)<=c.B))&&(decide (c.B<(k.length:Int)))) then (bif ((decide ((0:Int)<=c.B))&&(decide (c.B<(k.length:Int)))) then ((lV (ix k c.B) t false).bind λa=>(bif ((decide ((0:Int)<=c.B))&&(decide (c.B<(k.length:Int)))) then ((λz0:List cQ=>(bif (!a.2.2.1) then ((fY t m).bind λo=>(some (o.1,b,q,s,o.2,p,z0))) else (bif (!(decide ((0:Int)<(((ix k c.B).Items.length:Nat):Int)))) then ((dF n c.B a.2.2.2.2.2.2.2.2.2.2 d b q m p s).bind λg=>(bif (decide (0<=n/\n<(g.2.2.2.2.length:Int))) then (eZ n t c d k g.1 g.2.2.2.1 g.2.2.2.2 z0 (lk.mk a.2.2.1 false a.2.2.2.1 a.2.2.2.2.1 a.2.2.2.2.2.1 a.2.2.2.2.2.2.2.2.2.2) g.2.1 g.2.2.1) else none)) else (eZ n t c d k b m p z0 (lk.mk a.2.2.1 false a.2.2.2.1 a.2.2.2.2.1 a.2.2.2.2.2.1 a.2.2.2.2.2.2.2.2.2.2) q s)))) (k.set c.B.toNat ((cQ.mk a.1 a.2.2.2.2.2.2.2.1 a.2.1 a.2.2.2.2.2.2.2.2.1 a.2.2.2.2.2.2.2.2.2.1):cQ))) else none)) else none) else none) else (bif (c.Op==16) then (bif ((decide ((0:Int)<=c.A))&&(decide (c.A<(k.length:Int)))) then ((oI (ix k c.A)).bind λf=>(bif ((decide ((0:Int)<=c.A))&&(decide (c.A<(k.length:Int)))) then ((λz2:List cQ=>(bif f.2.2.2.1 then ((dH t c.A q).bind λv=>(some (false,2,v,s,m,p,z2))) else ((dq t c.Op c.A 0 q).bind λx=>((dF n c.A f.2.2.2.2.2.2.2.2 d b x m p s).bind λj=>(bif (decide (0<=n/\n<(j.2.2.2.2.length:Int))) then (d4 j.1 j.2.1 j.2.2.1 j.2.2.2.1 j.2.2.2.2 z2) else none))))) (k.set c.A.toNat ((cQ.mk f.1 f.2.2.2.2.2.1 f.2.1 f.2.2.2.2.2.2.1 f.2.2.2.2.2.2.2.1):cQ))) else none)) else none) else (d4 b q s m p k)))) else none)) else none)
def jV (a b:Int):Option (cC):=(some ((cC.mk a b)))
def nP (l:di):Int×(List (Int×Int))->Option (((Int×(List (Int×Int))) ⊕ (cC))):=λ(a,b)=>(bif (decide (a<(l.Line.length:Int))) then (bif ((decide ((0:Int)<=a))&&(decide (a<(l.Line.length:Int)))) then (bif (decide ((ix l.Line a).Task<1)) then ((jV 3 (i64.wrap (a+1))).bind λd=>(Option.map Sum.inr (some (d)))) else (bif (decide ((0:Int)<(fU b (ix l.Line a).Task))) then ((jV 10 (i64.wrap (a+1))).bind λe=>(Option.map Sum.inr (some (e)))) else (bif ((ix l.Line a).N != 0) then ((jV 5 (i64.wrap (a+1))).bind λc=>(Option.map Sum.inr (some (c)))) else (some (Sum.inl ((i64.wrap (a+1)),(iw b (ix l.Line a).Task 1))))))) else none) else (Option.map Sum.inr (some ((cC.mk 0 0)))))
def oX (l:di):Option (cC):=(bif (decide ((5000:Int)<(l.Line.length:Int))) then ((jV 2 0).bind λb=>(some (b))) else (bif ((decide (l.Readers<0))||(decide ((1000000000:Int)<l.Readers))) then ((jV 3 0).bind λa=>(some (a))) else (bif ((!((((l.Writer&&(!(decide ((0:Int)<l.Readers))))&&(decide ((0:Int)<(l.Line.length:Int))))&&(!l.Writer))&&(!(l.Readers==0))))||(decide ((0:Int)<(l.Line.length:Int)))) then (bif ((!((((!l.Writer)&&(decide ((0:Int)<(l.Line.length:Int))))&&(!l.Writer))&&(!(l.Readers==0))))||(decide ((0:Int)<(l.Line.length:Int)))) then (bif (bif l.Writer then ((decide ((0:Int)<l.Readers))||((decide ((0:Int)<(l.Line.length:Int)))&&((!l.Writer)&&((l.Readers==0)||(!(ix l.Line (0:Int)).Write))))) else ((decide ((0:Int)<(l.Line.length:Int)))&&((!l.Writer)&&((l.Readers==0)||(!(ix l.Line (0:Int)).Write))))) then ((jV 5 0).bind λc=>(some (c))) else (dD (nP l) (0,[]))) else none) else none)))
def qs (w:dQ) (a:Int):Option (Bool):=(some ((w.Task==a)))
def iD (s:List dQ) (f:Int):Int->Option (((Int) ⊕ (Int))):=λa=>(bif (decide (a<(s.length:Int))) then (bif ((decide ((0:Int)<=a))&&(decide (a<(s.length:Int)))) then ((qs (ix s a) f).bind λb=>(bif b then (Option.map Sum.inr (some (a))) else (some (Sum.inl ((i64.wrap (a+1))))))) else none) else (Option.map Sum.inr (some ((-1)))))
def kX (s:List dQ) (f:Int):Option (Int):=(dD (iD s f) (0))
def iE (s:List dQ) (f:Int):Option (Bool):=((kX s f).bind λa=>(some ((decide ((0:Int)<=a)))))
def mW (s:List dQ):Option ((List dQ)):=(bif (decide ((([]:List dQ)++s).length*24<=140737488355328)) then (some ((([]:List dQ)++s))) else none)
def lG (l:di):Option ((List dQ)):=((mW l.Line).bind λa=>(some (a)))
def od (c:List Int) (a:Int) (b:Bool) (d:List dQ):Option ((List Int)×Int×Bool×List dQ):=(some (c,a,b,d))
def jW:Int×Bool×List Int×(List dQ)->Option (((Int×Bool×List Int×List dQ) ⊕ ((List Int)×Int×Bool×List dQ))):=λ(b,c,d,a)=>(bif ((decide ((0:Int)<(a.length:Int)))&&(!c)) then (bif (decide ((0:Int)<(a.length:Int))) then (bif ((ix a (0:Int)).Write&&(decide ((0:Int)<b))) then (Option.map Sum.inr (od d b c a)) else (bif (decide ((1:Int)<=(a.length:Int))) then (bif (decide ((d++([(ix a (0:Int)).Task]:List Int)).length*8<=140737488355328)) then (bif (!(ix a (0:Int)).Write) then (some (Sum.inl ((i64.wrap (b+1)),(ix a (0:Int)).Write,(d++([(ix a (0:Int)).Task]:List Int)),(cut a (1:Int) (a.length:Int))))) else (some (Sum.inl (b,(ix a (0:Int)).Write,(d++([(ix a (0:Int)).Task]:List Int)),(cut a (1:Int) (a.length:Int)))))) else none) else none)) else none) else (Option.map Sum.inr (od d b c a)))
def kO (a:Int) (b:Bool) (c:List dQ):Option ((List Int)×Int×Bool×List dQ):=(dD jW (a,b,[],c))
def mF (l:di) (b:Int) (d m:Bool):Option (Int×Bool×Bool×cC×List dQ):=((oX l).bind λe=>(bif (e.Code != 0) then (some (0,false,false,e,[])) else (bif (decide (b<1)) then ((jV 3 (-1)).bind λf=>(some (0,false,false,f,[]))) else ((iE l.Line b).bind λj=>(bif j then ((jV 10 (-1)).bind λi=>(some (0,false,false,i,[]))) else (bif (((l.Line.length:Int)==5000)||(l.Readers==1000000000)) then ((jV 9 0).bind λg=>(some (0,false,false,g,[]))) else ((lG l).bind λc=>(bif (decide ((c++([(dQ.mk b d 0)]:List dQ)).length*24<=140737488355328)) then ((kO l.Readers l.Writer (c++([(dQ.mk b d 0)]:List dQ))).bind λa=>((ig a.1 b).bind λk=>(bif k then (some (a.2.1,a.2.2.1,true,(cC.mk 0 0),a.2.2.2)) else (bif m then ((lG l).bind λh=>(some (l.Readers,l.Writer,false,(cC.mk 0 0),h))) else (some (a.2.1,a.2.2.1,false,(cC.mk 0 0),a.2.2.2)))))) else none))))))))
def nQ (a:Int) (c:Bool) (d:List dQ):Option (Int×Bool×Bool×cC×List dQ×List Int):=((kO a c d).bind λb=>(some (b.2.1,b.2.2.1,false,(cC.mk 0 0),b.2.2.2,b.1)))
def nE (l:di) (a:Bool):Option (Int×Bool×Bool×cC×List dQ×List Int):=((oX l).bind λb=>(bif (b.Code != 0) then (some (0,false,false,b,[],[])) else (bif (bif a then ((!l.Writer)||((!a)&&(l.Readers==0))) else ((!a)&&(l.Readers==0))) then ((lG l).bind λd=>(some (l.Readers,l.Writer,true,(cC.mk 0 0),d,[]))) else ((lG l).bind λc=>(bif a then (nQ l.Readers false c) else (nQ (i64.wrap (l.Readers-1)) l.Writer c))))))
def jm (a b:Int):Option (cC):=(some ((cC.mk a b)))
def qt (l:List Int):Int×(List (Int×Int))->Option (((Int×(List (Int×Int))) ⊕ (cC))):=λ(a,b)=>(bif (decide (a<(l.length:Int))) then (bif ((decide ((0:Int)<=a))&&(decide (a<(l.length:Int)))) then (bif (decide ((ix l a)<1)) then ((jm 3 (i64.wrap (a+1))).bind λd=>(Option.map Sum.inr (some (d)))) else (bif (decide ((0:Int)<(fU b (ix l a)))) then ((jm 10 (i64.wrap (a+1))).bind λc=>(Option.map Sum.inr (some (c)))) else (some (Sum.inl ((i64.wrap (a+1)),(iw b (ix l a) 1)))))) else none) else (Option.map Sum.inr (some ((cC.mk 0 0)))))
def rP (l:List Int):Option (cC):=(bif (decide ((5000:Int)<(l.length:Int))) then ((jm 2 0).bind λa=>(some (a))) else (dD (qt l) (0,[])))
def oY (g:cX):Option (cC):=((rP g.Line).bind λa=>(bif (a.Code != 0) then (some (a)) else (bif ((decide (g.Count<0))||(decide ((1000000000:Int)<g.Count))) then ((jm 3 0).bind λc=>(some (c))) else (bif ((g.Count==0)&&(decide ((0:Int)<(g.Line.length:Int)))) then ((jm 5 0).bind λb=>(some (b))) else (some ((cC.mk 0 0)))))))
def nG (g:cX) (n:Int):Option (Int×Bool×cC×List Int×List Int):=((oY g).bind λb=>(bif (b.Code != 0) then (some (0,false,b,[],[])) else (bif ((decide (n<(-1000000000)))||(decide ((1000000000:Int)<n))) then ((jm 3 (-1)).bind λd=>(some (0,false,d,[],[]))) else ((fd g.Line).bind λa=>(bif (decide ((i64.wrap (g.Count+n))<0)) then (some (g.Count,true,(cC.mk 0 0),a,[])) else (bif (decide ((1000000000:Int)<(i64.wrap (g.Count+n)))) then ((jm 9 0).bind λc=>(some (0,false,c,[],[]))) else (bif ((i64.wrap (g.Count+n))==0) then (some (0,false,(cC.mk 0 0),[],a)) else (some ((i64.wrap (g.Count+n)),false,(cC.mk 0 0),a,[])))))))))
def qu (l:List Int) (a:Int):Option (cC):=(bif (decide (a<1)) then ((jm 3 (-1)).bind λd=>(some (d))) else ((ig l a).bind λe=>(bif e then ((jm 10 (-1)).bind λb=>(some (b))) else (bif ((l.length:Int)==5000) then ((jm 9 0).bind λc=>(some (c))) else (some ((cC.mk 0 0)))))))
def ml (g:cX) (a:List Int):Option (Int×Bool×cC×List Int):=(some (g.Count,(g.Count==0),(cC.mk 0 0),a))
def nR (g:cX) (b:Int) (c:cC):Option (Int×Bool×cC×List Int):=(bif (c.Code != 0) then (some (0,false,c,[])) else ((fd g.Line).bind λa=>(bif (decide ((0:Int)<g.Count)) then (bif (decide ((a++([b]:List Int)).length*8<=140737488355328)) then (ml g (a++([b]:List Int))) else none) else (ml g a))))
def nH (g:cX) (a:Int):Option (Int×Bool×cC×List Int):=((oY g).bind λb=>(bif (b.Code==0) then ((qu g.Line a).bind λc=>(nR g a c)) else (nR g a b)))
def fp (a:Int) (e:List cy) (b:List Int) (g:List task) (f:List bV) (d:List di) (c:List cX):Option (Bool×Int×List cy×List Int×List task×List bV×List di×List cX):=(some (true,a,e,b,g,f,d,c))
def h_ (n:Int) (o:df) (a:List df) (e:Int) (p:List cX):Int×Int×List task×List bV×List di×List Int×List cy×(List Int)->Option (((Int×Int×List task×List bV×List di×List Int×List cy×List Int) ⊕ (Bool×Int×List cy×List Int×List task×List bV×List di×List cX))):=λ(h,b,c,i,l,d,k,j)=>(bif (decide (0<=n/\n<(i.length:Int))) then (bif (decide (b<h)) then (bif ((decide ((0:Int)<=b))&&(decide (b<(d.length:Int)))) then ((dK (ix d b) c).bind λf=>(bif (decide (0<=f/\f<(c.length:Int))) then (bif ((decide ((0:Int)<=(ix c f).pc))&&(decide ((ix c f).pc<(a.length:Int)))) then ((dq (ix d b) 17 o.A (ix a (ix c f).pc).B k).bind λm=>((fV n (ix d b) c i j).bind λg=>(bif (decide (0<=n/\n<(g.2.2.length:Int))) then (some (Sum.inl (h,(i64.wrap (b+1)),g.2.1,g.2.2,l,d,m,g.1))) else none))) else none) else none)) else none) else (Option.map Sum.inr (fp e k j c i l p))) else none)
def ia (l:Int) (n:df) (b:Int) (m:List di):Int×Int×List task×List bV×List cX×List Int×List cy×(List Int)->Option (((Int×Int×List task×List bV×List cX×List Int×List cy×List Int) ⊕ (Bool×Int×List cy×List Int×List task×List bV×List di×List cX))):=λ(e,a,j,f,g,c,i,h)=>(bif (decide (0<=l/\l<(f.length:Int))) then (bif (decide (a<e)) then (bif ((decide ((0:Int)<=a))&&(decide (a<(c.length:Int)))) then ((dq (ix c a) 20 n.A 0 i).bind λk=>((fV l (ix c a) j f h).bind λd=>(bif (decide (0<=l/\l<(d.2.2.length:Int))) then (some (Sum.inl (e,(i64.wrap (a+1)),d.2.1,d.2.2,g,c,k,d.1))) else none))) else none) else (Option.map Sum.inr (fp b i h j f m g))) else none)
def eU (y t:Int) (b:df) (h:List df) (a:Int) (o:List cy) (k:List task) (n:List bV) (p:List Int) (d:List di) (f:List cX):Option (Bool×Int×List cy×List Int×List task×List bV×List di×List cX):=(bif (decide (0<=y/\y<(n.length:Int))) then ((dK t k).bind λj=>(bif (decide (0<=j/\j<(k.length:Int))) then (bif (b.Op==17) then (bif ((decide ((0:Int)<=b.A))&&(decide (b.A<(d.length:Int)))) then ((mF (ix d b.A) t (b.B==1) false).bind λe=>(bif ((decide ((0:Int)<=b.A))&&(decide (b.A<(d.length:Int)))) then ((λz1:List di=>(bif (!e.2.2.1) then ((fY t k).bind λm=>(some (m.1,a,o,p,m.2,n,z1,f))) else ((dq t b.Op b.A b.B o).bind λs=>(fp a s p k n z1 f)))) (d.set b.A.toNat ((di.mk e.1 e.2.1 e.2.2.2.2):di))) else none)) else none) else (bif (b.Op==18) then (bif ((decide ((0:Int)<=b.A))&&(decide (b.A<(d.length:Int)))) then ((nE (ix d b.A) (b.B==1)).bind λc=>(bif ((decide ((0:Int)<=b.A))&&(decide (b.A<(d.length:Int)))) then ((λz0:List di=>(bif c.2.2.1 then ((dH t b.A o).bind λw=>(some (false,2,w,p,k,n,z0,f))) else ((dq t b.Op b.A b.B o).bind λu=>(dD (h_ y b h a f) ((c.2.2.2.2.2.length:Int),0,k,n,z0,c.2.2.2.2.2,u,p))))) (d.set b.A.toNat ((di.mk c.1 c.2.1 c.2.2.2.2.1):di))) else none)) else none) else (bif (b.Op==19) then (bif ((decide ((0:Int)<=b.A))&&(decide (b.A<(f.length:Int)))) then (bif ((decide ((0:Int)<=b.B))&&(decide (b.B<((8:Nat):Int)))) then ((nG (ix f b.A) ((ix k j).r.get b.B)).bind λg=>(bif (g.2.1||(g.2.2.1.Code != 0)) then ((dH t b.A o).bind λq=>(some (false,2,q,p,k,n,d,f))) else (bif ((decide ((0:Int)<=b.A))&&(decide (b.A<(f.length:Int)))) then ((dq t b.Op b.A ((ix k j).r.get b.B) o).bind λv=>(dD (ia y b a d) ((g.2.2.2.2.length:Int),0,k,n,(f.set b.A.toNat ((cX.mk g.1 g.2.2.2.1):cX)),g.2.2.2.2,v,p))) else none))) else none) else none) else (bif (b.Op==20) then (bif ((decide ((0:Int)<=b.A))&&(decide (b.A<(f.length:Int)))) then ((nH (ix f b.A) t).bind λi=>(bif ((decide ((0:Int)<=b.A))&&(decide (b.A<(f.length:Int)))) then (bif (!i.2.1) then ((fY t k).bind λl=>(some (l.1,a,o,p,l.2,n,d,(f.set b.A.toNat ((cX.mk i.1 i.2.2.2):cX))))) else ((dq t b.Op b.A 0 o).bind λx=>(fp a x p k n d (f.set b.A.toNat ((cX.mk i.1 i.2.2.2):cX))))) else none)) else none) else (fp a o p k n d f))))) else none)) else none)
def eR (a b:Int) (j:List cQ) (h:List di) (i:List cX) (e:List cy) (c:List task) (d f:List Int) (g:List bV):Option (Bool×Int×Int×List cy×List task×List Int×List Int×List bV×List cQ×List di×List cX):=(some (true,a,b,e,c,d,f,g,j,h,i))
def jx (b:Int) (j:List Int) (h:List bV) (g:List Int) (i:List cQ) (e:List di) (f:List cX) (a:Int) (c:List cy) (d:List task):Option (Bool×Int×Int×List cy×List task×List Int×List Int×List bV×List cQ×List di×List cX):=(some (false,a,b,c,d,g,j,h,i,e,f))
def eu (m t:Int) (i:df) (h:List df) (d c e:Int) (u:List cy) (s:List Int) (b:List task) (p:List bV) (v:List Int) (q:List cQ) (j:List di) (k:List cX) (a:Int) (l:Bool):Option (Bool×Int×Int×List cy×List task×List Int×List Int×List bV×List cQ×List di×List cX):=(bif (decide (0<=m/\m<(p.length:Int))) then (bif (decide (0<=a/\a<(b.length:Int))) then (bif l then ((eU m t i h d u b p v j k).bind λf=>(bif (decide (0<=m/\m<(f.2.2.2.2.2.1.length:Int))) then (bif (decide (0<=a/\a<(f.2.2.2.2.1.length:Int))) then (some (f.1,f.2.1,e,f.2.2.1,f.2.2.2.2.1,f.2.2.2.1,s,f.2.2.2.2.2.1,q,f.2.2.2.2.2.2.1,f.2.2.2.2.2.2.2)) else none) else none)) else (bif (i.Op==21) then (bif ((decide ((0:Int)<=i.A))&&(decide (i.A<((8:Nat):Int)))) then (bif (decide ((1000000000:Int)<((ix b a).r.get i.A))) then ((dH t 0 u).bind λo=>(some (false,2,e,o,b,v,s,p,q,j,k))) else (bif (decide (((ix b a).r.get i.A)<1)) then ((i4 m t b p v).bind λg=>(bif (decide (0<=m/\m<(g.2.2.2.length:Int))) then (bif (decide (0<=a/\a<(g.2.2.1.length:Int))) then (some (g.1,d,e,u,g.2.2.1,g.2.1,s,g.2.2.2,q,j,k)) else none) else none)) else ((λz0:List task=>((λz1:List task=>((λz2:List task=>(some (false,d,(i64.wrap (e+1)),u,(z2.set a.toNat ((task.mk (ix z2 a).pc (ix z2 a).r (ix z2 a).state (ix z2 a).when (i64.wrap (e+1))):task)),v,s,p,q,j,k))) (z1.set a.toNat ((task.mk (ix z1 a).pc (ix z1 a).r (ix z1 a).state (i64.wrap (c+((ix b a).r.get i.A))) (ix z1 a).seq):task)))) (z0.set a.toNat ((task.mk (ix z0 a).pc (ix z0 a).r 2 (ix z0 a).when (ix z0 a).seq):task)))) (b.set a.toNat ((task.mk (i64.wrap ((ix b a).pc+1)) (ix b a).r (ix b a).state (ix b a).when (ix b a).seq):task))))) else none) else (bif (i.Op==22) then ((dH t 0 u).bind λn=>(some (false,2,e,n,b,v,s,p,q,j,k))) else (eR d e q j k u b v s p)))) else none) else none)
def fC (j t:Int) (f:df) (b:List df) (a c d:Int) (n:List cy) (p:List Int) (l:List task) (m:List bV) (o:List Int) (q:List cQ) (h:List di) (i:List cX) (g:Int) (k:Bool):Option (Bool×Int×Int×List cy×List task×List Int×List Int×List bV×List cQ×List di×List cX):=(bif (decide (0<=j/\j<(m.length:Int))) then (bif (decide (0<=g/\g<(l.length:Int))) then (bif k then ((eD j t f b a n l m o q).bind λe=>(bif (decide (0<=j/\j<(e.2.2.2.2.2.1.length:Int))) then (bif (decide (0<=g/\g<(e.2.2.2.2.1.length:Int))) then (some (e.1,e.2.1,d,e.2.2.1,e.2.2.2.2.1,e.2.2.2.1,p,e.2.2.2.2.2.1,e.2.2.2.2.2.2,h,i)) else none) else none)) else (bif (f.Op==17) then (eu j t f b a c d n p l m o q h i g (f.Op==17)) else (bif (f.Op==18) then (eu j t f b a c d n p l m o q h i g (f.Op==18)) else (bif (f.Op==19) then (eu j t f b a c d n p l m o q h i g (f.Op==19)) else (eu j t f b a c d n p l m o q h i g (f.Op==20)))))) else none) else none)
def dB (p t:Int) (c:df) (e:List df) (b f d:Int) (s:List cy) (l:List Int) (g:List task) (m:List bV) (q:List Int) (n:List cQ) (i:List di) (j:List cX):Option (Bool×Int×Int×List cy×List task×List Int×List Int×List bV×List cQ×List di×List cX):=(bif (decide (0<=p/\p<(m.length:Int))) then ((dK t g).bind λa=>(bif (decide (0<=a/\a<(g.length:Int))) then (bif (c.Op==8) then (bif ((decide ((0:Int)<=c.A))&&(decide (c.A<((8:Nat):Int)))) then ((dq t c.Op 0 ((ix g a).r.get c.A) s).bind λu=>(eR b d n i j u g q l m)) else none) else (bif (c.Op==9) then ((dq t c.Op 0 0 s).bind λo=>((λz1:List task=>(bif (t==1) then (jx d l m q n i j 1 o z1) else (jx d l m q n i j b o z1))) (g.set a.toNat ((task.mk (ix g a).pc (ix g a).r 3 (ix g a).when (ix g a).seq):task)))) else (bif (c.Op==10) then ((i4 p t g m q).bind λh=>(bif (decide (0<=p/\p<(h.2.2.2.length:Int))) then (bif (decide (0<=a/\a<(h.2.2.1.length:Int))) then (some (h.1,b,d,s,h.2.2.1,h.2.1,l,h.2.2.2,n,i,j)) else none) else none)) else (bif (c.Op==11) then (bif ((g.length:Int)==64) then (some (false,4,d,s,g,q,l,m,n,i,j)) else (bif ((decide ((0:Int)<=c.B))&&(decide (c.B<((8:Nat):Int)))) then (bif (decide ((g++[((task.mk c.A ((default:(dm 8)).set (0:Int) ((ix g a).r.get c.B)) 0 0 0):task)]).length*8<=140737488355328)) then ((dq t c.Op 0 (((g++[((task.mk c.A ((default:(dm 8)).set (0:Int) ((ix g a).r.get c.B)) 0 0 0):task)]).length:Nat):Int) s).bind λv=>((i6 p (((g++[((task.mk c.A ((default:(dm 8)).set (0:Int) ((ix g a).r.get c.B)) 0 0 0):task)]).length:Nat):Int) (g++[((task.mk c.A ((default:(dm 8)).set (0:Int) ((ix g a).r.get c.B)) 0 0 0):task)]) m q).bind λk=>(bif (decide (0<=p/\p<(k.2.2.length:Int))) then (eR b d n i j v k.2.1 k.1 l k.2.2) else none))) else none) else none)) else (bif (c.Op==12) then (bif ((decide ((0:Int)<=c.B))&&(decide (c.B<(l.length:Int)))) then (bif ((decide ((0:Int)<=c.A))&&(decide (c.A<((8:Nat):Int)))) then ((λz0:List task=>((dq t c.Op c.B ((ix z0 a).r.get c.A) s).bind λw=>(eR b d n i j w z0 q l m))) (g.set a.toNat ((task.mk (ix g a).pc ((ix g a).r.set c.A (ix l c.B)) (ix g a).state (ix g a).when (ix g a).seq):task))) else none) else none) else (bif (c.Op==13) then (bif ((decide ((0:Int)<=c.B))&&(decide (c.B<((8:Nat):Int)))) then (bif ((decide ((0:Int)<=c.A))&&(decide (c.A<(l.length:Int)))) then ((dq t c.Op c.A ((ix g a).r.get c.B) s).bind λx=>(eR b d n i j x g q (l.set c.A.toNat ((ix g a).r.get c.B)) m)) else none) else none) else (bif (c.Op==14) then (fC p t c e b f d s l g m q n i j a (c.Op==14)) else (bif (c.Op==15) then (fC p t c e b f d s l g m q n i j a (c.Op==15)) else (fC p t c e b f d s l g m q n i j a (c.Op==16)))))))))) else none)) else none)
def ep (p:Int) (e:List df) (o:List cy) (b f g:Int) (s:List Int) (m:List task) (q:List cQ) (l:List di) (n:List cX) (h:List bV) (j:List Int) (c:Int) (i:df):Option (Int×Int×List cy×List task×List Int×List Int×List bV×List cQ×List di×List cX):=(bif (decide (0<=p/\p<(h.length:Int))) then (bif (decide (0<=c/\c<(m.length:Int))) then ((oU i.Op).bind λk=>(bif k then ((mj i (ix m c).pc c m).bind λd=>(bif (decide (d.2.length=m.length)) then (bif (decide (0<=c/\c<(d.2.length:Int))) then (some (b,g,o,(d.2.set c.toNat ((task.mk d.1 (ix d.2 c).r (ix d.2 c).state (ix d.2 c).when (ix d.2 c).seq):task)),j,s,h,q,l,n)) else none) else none)) else ((dB p (ix h p).now i e b f g o s m h j q l n).bind λa=>(bif (decide (0<=p/\p<(a.2.2.2.2.2.2.2.1.length:Int))) then (bif (decide (0<=c/\c<(a.2.2.2.2.1.length:Int))) then (bif a.1 then (some (a.2.1,a.2.2.1,a.2.2.2.1,(a.2.2.2.2.1.set c.toNat ((task.mk (i64.wrap ((ix a.2.2.2.2.1 c).pc+1)) (ix a.2.2.2.2.1 c).r (ix a.2.2.2.2.1 c).state (ix a.2.2.2.2.1 c).when (ix a.2.2.2.2.1 c).seq):task)),a.2.2.2.2.2.1,a.2.2.2.2.2.2.1,a.2.2.2.2.2.2.2.1,a.2.2.2.2.2.2.2.2.1,a.2.2.2.2.2.2.2.2.2.1,a.2.2.2.2.2.2.2.2.2.2)) else (bif (((ix a.2.2.2.2.2.2.2.1 p).now==(ix h p).now)&&((ix a.2.2.2.2.1 c).state != 0)) then (some (a.2.1,a.2.2.1,a.2.2.2.1,a.2.2.2.2.1,a.2.2.2.2.2.1,a.2.2.2.2.2.2.1,(a.2.2.2.2.2.2.2.1.set p.toNat ((bV.mk 0 (ix a.2.2.2.2.2.2.2.1 p).Ring_Next (ix a.2.2.2.2.2.2.2.1 p).Ring_List):bV)),a.2.2.2.2.2.2.2.2.1,a.2.2.2.2.2.2.2.2.2.1,a.2.2.2.2.2.2.2.2.2.2)) else (some (a.2.1,a.2.2.1,a.2.2.2.1,a.2.2.2.2.1,a.2.2.2.2.2.1,a.2.2.2.2.2.2.1,a.2.2.2.2.2.2.2.1,a.2.2.2.2.2.2.2.2.1,a.2.2.2.2.2.2.2.2.2.1,a.2.2.2.2.2.2.2.2.2.2)))) else none) else none)))) else none) else none)
def f_ (p:Int) (a:List df) (l:List cy) (b d e:Int) (n:List Int) (h:List task) (m:List cQ) (i:List di) (k:List cX) (j:Bool) (f:List bV) (g:List Int):Option (Int×Int×List cy×List task×List Int×List Int×List bV×List cQ×List di×List cX):=(bif (decide (0<=p/\p<(f.length:Int))) then (bif j then (some (b,e,l,h,g,n,f,m,i,k)) else ((dK (ix f p).now h).bind λc=>(bif (decide (0<=c/\c<(h.length:Int))) then (bif (decide ((ix h c).pc<(a.length:Int))) then (bif ((decide ((0:Int)<=(ix h c).pc))&&(decide ((ix h c).pc<(a.length:Int)))) then (ep p a l b d e n h m i k f g c (ix a (ix h c).pc)) else none) else (ep p a l b d e n h m i k f g c (df.mk 9 0 0))) else none))) else none)
def gp (p:Int) (a:List df) (i:Int) (h:List Int) (g f:Int) (r:List cy) (b j c:Int) (t:List Int) (d:Int) (q:List Int) (n:List task) (m:List bV) (s:List Int) (o:List cQ) (k:List di) (l:List cX):Option (Int×Int×List cy×List task×List Int×List Int×List bV×List cQ×List di×List cX):=(bif ((decide ((0:Int)<=p))&&(decide (p<(m.length:Int)))) then (bif ((ix m p).now==0) then ((gm p m s).bind λe=>(bif (decide (0<=p/\p<(e.2.2.length:Int))) then (f_ p a r b c d q n o k l (!e.1) e.2.2 e.2.1) else none)) else (f_ p a r b c d q n o k l false m s)) else none)
def iP (a:Int) (b:List task):Option (Bool):=(bif (decide (0<=a/\a<(b.length:Int))) then (some ((((ix b a).state==0)||((ix b a).state==2)))) else none)
def gb (c:List task):Int->Option (((Int) ⊕ (Int))):=λa=>(bif (decide (a<(c.length:Int))) then (bif ((decide ((0:Int)<=a))&&(decide (a<(c.length:Int)))) then ((iP a c).bind λb=>(bif b then (Option.map Sum.inr (some (a))) else (some (Sum.inl ((i64.wrap (a+1))))))) else none) else (Option.map Sum.inr (some ((-1)))))
def ke (a:List task):Option (Int):=(dD (gb a) (0))
def jo (b:List task):Option (Bool):=((ke b).bind λa=>(some ((decide ((0:Int)<=a)))))
def jy (b:List task):Option (Bool):=((jo b).bind λa=>(some ((!a))))
def nS (b c d:Int) (h:List cy) (g:List Int) (e:List task):Int×(List Int)->Option (((Int×List Int) ⊕ (Int×Int×Int×cC×List cy×List Int×List Int))):=λ(a,f)=>(bif (decide (a<(e.length:Int))) then (bif ((decide ((0:Int)<=a))&&(decide (a<(e.length:Int)))) then (bif (decide ((f++([(ix e a).state]:List Int)).length*8<=140737488355328)) then (some (Sum.inl ((i64.wrap (a+1)),(f++([(ix e a).state]:List Int))))) else none) else none) else (Option.map Sum.inr (some (b,c,d,(cC.mk 0 0),h,f,g))))
def mn (a b c:Int) (f:List cy) (g e:List Int) (d:List task):Option (Int×Int×Int×cC×List cy×List Int×List Int):=(dD (nS a b c f e d) (0,g))
def mo (j a:Int) (l:List Int) (b c d:Int) (n:List cy) (k:List Int) (m:List task) (h:List bV) (g:List Int) (i:List cQ) (f:List di) (e:List cX):Option (((Int×Int×Int×Int×Int×List cy×List Int×List Int×List task×List bV×List Int×List cQ×List di×List cX) ⊕ (Int×Int×Int×cC×List cy×List Int×List Int))):=(some (Sum.inl ((i64.wrap (j+1)),b,(i64.wrap (a+1)),c,d,n,l,k,m,h,g,i,f,e)))
def mq (j a:Int) (l:List Int) (c b d:Int) (n:List cy) (m:List Int) (h:List task) (k:List bV) (i:List Int) (g:List cQ) (e:List di) (f:List cX) (o:Bool):Option (((Int×Int×Int×Int×Int×List cy×List Int×List Int×List task×List bV×List Int×List cQ×List di×List cX) ⊕ (Int×Int×Int×cC×List cy×List Int×List Int))):=(bif o then (mo j a l 3 b d n m h k i g e f) else (mo j a l c b d n m h k i g e f))
def mr (j b:Int) (l:List Int) (a c d:Int) (n:List cy) (m:List Int) (e:List task) (k:List bV) (i:List Int) (h:List cQ) (f:List di) (g:List cX):Option (((Int×Int×Int×Int×Int×List cy×List Int×List Int×List task×List bV×List Int×List cQ×List di×List cX) ⊕ (Int×Int×Int×cC×List cy×List Int×List Int))):=(bif (a==0) then ((jy e).bind λo=>(mq j b l a c d n m e k i h f g o)) else (mq j b l a c d n m e k i h f g false))
def iG (p:cx) (g:List Int):Int×Int×Int×Int×Int×List cy×List Int×List Int×List task×List bV×List Int×List cQ×List di×(List cX)->Option (((Int×Int×Int×Int×Int×List cy×List Int×List Int×List task×List bV×List Int×List cQ×List di×List cX) ⊕ (Int×Int×Int×cC×List cy×List Int×List Int))):=λ(e,b,a,c,f,i,h,j,k,q,o,r,n,m)=>(bif (decide (e<(g.length:Int))) then (bif ((decide ((0:Int)<=e))&&(decide (e<(g.length:Int)))) then (bif (b != 0) then (Option.map Sum.inr (mn b a c i h j k)) else (bif (decide ((ix g e)<0)) then ((jU c k o).bind λl=>(mr e a h b l.1 f i j l.2.2 q l.2.1 r n m)) else ((gp (ix g e) p.Code p.Cells p.Pipes p.Locks p.Groups i b (i64.wrap (a+1)) c h f j k q o r n m).bind λd=>(mr e a h d.1 c d.2.1 d.2.2.1 d.2.2.2.2.2.1 d.2.2.2.1 d.2.2.2.2.2.2.1 d.2.2.2.2.1 d.2.2.2.2.2.2.2.1 d.2.2.2.2.2.2.2.2.1 d.2.2.2.2.2.2.2.2.2)))) else none) else (Option.map Sum.inr (mn b a c i h j k)))
def nT (p:cx) (d:Int) (c:List Int):Int->Option (((Int) ⊕ (Int×Int×Int×cC×List cy×List Int×List Int))):=λb=>(bif (decide (b<(c.length:Int))) then (bif ((decide ((0:Int)<=b))&&(decide (b<(c.length:Int)))) then (bif ((decide ((ix c b)<(-1)))||(decide (d<=(ix c b)))) then ((pp 3 b).bind λe=>(Option.map Sum.inr (some (0,0,0,e,[],[],[])))) else (some (Sum.inl ((i64.wrap (b+1)))))) else none) else (Option.map Sum.inr ((lU p d).bind λa=>(dD (iG p c) (0,0,0,0,0,[],[],a.1,a.2.1,a.2.2.1,a.2.2.2.1,a.2.2.2.2.1,a.2.2.2.2.2.1,a.2.2.2.2.2.2)))))
def mG (p:cx) (a:Int) (b:List Int):Option (Int×Int×Int×cC×List cy×List Int×List Int):=((qo p).bind λc=>(bif (c.Code != 0) then (some (0,0,0,c,[],[],[])) else (bif ((decide (a<1))||(decide ((16:Int)<a))) then ((pp 3 (-1)).bind λd=>(some (0,0,0,d,[],[],[]))) else (bif (decide ((5000:Int)<(b.length:Int))) then ((pp 2 (-1)).bind λe=>(some (0,0,0,e,[],[],[]))) else (dD (nT p a b) (0))))))
def jb:Option (Bool):=((mG (cx.mk ([(df.mk 15 0 0)]:List df) 0 ([0]:List Int) 0 0) 1 ([0,0]:List Int)).bind λa=>(some (((a.2.2.2.1.Code==0)&&((a.1==3)&&((a.2.1==1)&&((a.2.2.2.2.1.length:Int)==0)))))))
def kf (p:cx):Option (Bool):=(some (((decide ((2000:Int)<(p.Code.length:Int)))||(decide ((2000:Int)<(p.Pipes.length:Int))))))
def gI (a b:Int):Option (cC):=(some ((cC.mk a b)))
def fe (x a:Int):Option (Bool):=(some (((decide ((0:Int)<=x))&&(decide (x<a)))))
def f5 (p:cx) (k x:Int):Option (Bool):=(bif (k==110) then (some (true)) else (bif (k==114) then (fe x 8) else (bif (k==99) then (fe x (p.Code.length:Int)) else (bif (k==109) then (fe x p.Cells) else (bif (k==112) then (fe x (p.Pipes.length:Int)) else (bif (k==108) then (fe x p.Locks) else (bif (k==103) then (fe x p.Groups) else (bif (k==107) then (fe x 2) else (fe x 1)))))))))
def fA (c:Int) (a:Bool):Option (((Int) ⊕ (cC))):=(bif a then ((gI 5 c).bind λb=>(Option.map Sum.inr (some (b)))) else (some (Sum.inl ((i64.wrap (c+1))))))
def dW (p:cx):Int->Option (((Int) ⊕ (cC))):=λa=>(bif (decide (a<(p.Code.length:Int))) then (bif ((decide ((0:Int)<=a))&&(decide (a<(p.Code.length:Int)))) then (bif ((decide ((ix p.Code a).Op<1))||(decide ((22:Int)<(ix p.Code a).Op))) then ((gI 4 a).bind λd=>(Option.map Sum.inr (some (d)))) else (bif ((decide ((0:Int)<=(ix p.Code a).Op))&&(decide ((ix p.Code a).Op<(fX.length:Int)))) then (bif (decide ((0:Int)<((((ix fX (ix p.Code a).Op)).size:Nat):Int))) then ((f5 p ((((ix fX (ix p.Code a).Op)).data.getD ((0:Int)).toNat 0).toNat:Int) (ix p.Code a).A).bind λb=>(bif (!b) then (fA a true) else (bif ((decide ((0:Int)<=(ix p.Code a).Op))&&(decide ((ix p.Code a).Op<(fX.length:Int)))) then (bif (decide ((1:Int)<((((ix fX (ix p.Code a).Op)).size:Nat):Int))) then ((f5 p ((((ix fX (ix p.Code a).Op)).data.getD ((1:Int)).toNat 0).toNat:Int) (ix p.Code a).B).bind λc=>(fA a (!c))) else none) else none))) else none) else none)) else none) else (Option.map Sum.inr (some ((cC.mk 0 0)))))
def fZ (p:cx):Int->Option (((Int) ⊕ (cC))):=λa=>(bif (decide (a<(p.Pipes.length:Int))) then (bif ((decide ((0:Int)<=a))&&(decide (a<(p.Pipes.length:Int)))) then (bif ((!(!(decide ((ix p.Pipes a)<0))))||((decide ((0:Int)<=a))&&(decide (a<(p.Pipes.length:Int))))) then (bif ((decide ((ix p.Pipes a)<0))||(decide ((100:Int)<(ix p.Pipes a)))) then ((gI 8 a).bind λb=>(Option.map Sum.inr (some (b)))) else (some (Sum.inl ((i64.wrap (a+1)))))) else none) else none) else (Option.map Sum.inr (dD (dW p) (0))))
def iF (p:cx):Option (cC):=(bif ((decide ((1000:Int)<(p.Code.length:Int)))||(decide ((20:Int)<(p.Pipes.length:Int)))) then ((gI 2 0).bind λa=>(some (a))) else (bif ((decide (p.Cells<0))||((decide ((20:Int)<p.Cells))||((decide (p.Locks<0))||((decide ((20:Int)<p.Locks))||((decide (p.Groups<0))||(decide ((20:Int)<p.Groups))))))) then ((gI 3 0).bind λb=>(some (b))) else (dD (fZ p) (0))))
def jX (b:Int) (a:cC):Option (((Int×cC) ⊕ (cC))):=(some (Sum.inl ((i64.wrap (b+1)),a)))
def jY (d:Int) (a:List Int):Int×cC->Option (((Int×cC) ⊕ (cC))):=λ(c,b)=>(bif ((decide (c<(a.length:Int)))&&(b.Code==0)) then (bif ((decide ((0:Int)<=c))&&(decide (c<(a.length:Int)))) then (bif ((!(!(decide ((ix a c)<(-1)))))||((decide ((0:Int)<=c))&&(decide (c<(a.length:Int))))) then (bif ((decide ((ix a c)<(-1)))||(decide (d<=(ix a c)))) then ((gI 3 c).bind λe=>(jX c e)) else (jX c b)) else none) else none) else (Option.map Sum.inr (some (b))))
def gM (b:Int) (a:List Int) (c:cC):Option (cC):=(dD (jY b a) (0,c))
def fT (b:Int) (a:List Int) (c:cC):Option (cC):=(bif ((c.Code==0)&&(decide ((5000:Int)<(a.length:Int)))) then ((gI 2 (-1)).bind λd=>(gM b a d)) else (gM b a c))
def jz (p:cx) (a:Int) (b:List Int):Option (cC):=((iF p).bind λc=>(bif ((c.Code==0)&&((decide (a<1))||(decide ((16:Int)<a)))) then ((gI 3 (-1)).bind λd=>(fT a b d)) else (fT a b c)))
def jA (p:cx) (c:Int) (b:List Int) (d:Bool):Option (Int×Int×Int×Bool×List cy×List Int×List Int):=(bif d then (some (0,0,0,false,[],[],[])) else ((mG p c b).bind λa=>(some (a.1,a.2.1,a.2.2.1,(a.2.2.2.1.Code==0),a.2.2.2.2.1,a.2.2.2.2.2.1,a.2.2.2.2.2.2))))
def ij (p:cx) (b:Int) (a:List Int):Option (Int×Int×Int×Bool×List cy×List Int×List Int):=((kf p).bind λd=>(bif d then (jA p b a true) else (bif (decide ((5000:Int)<(a.length:Int))) then (jA p b a true) else ((jz p b a).bind λc=>(jA p b a (c.Code != 0))))))
def fq (c:jT) (b a:Int):Option (((Int) ⊕ (Bool))):=(bif (decide (a<=(ix c.Trace b).Obj)) then (Option.map Sum.inr (some (false))) else (some (Sum.inl ((i64.wrap (b+1))))))
def jc (p:cx) (c:jT) (b:Int) (a:Bool):Option (((Int) ⊕ (Bool))):=(bif a then (fq c b p.Groups) else (bif ((ix c.Trace b).Op==22) then (fq c b 21) else (fq c b 1)))
def jd (p:cx) (c:jT) (b:Int) (a:Bool):Option (((Int) ⊕ (Bool))):=(bif a then (fq c b p.Locks) else (bif ((ix c.Trace b).Op==19) then (jc p c b ((ix c.Trace b).Op==19)) else (jc p c b ((ix c.Trace b).Op==20))))
def ib (p:cx) (c:jT) (b:Int) (a:Bool):Option (((Int) ⊕ (Bool))):=(bif a then (fq c b (p.Pipes.length:Int)) else (bif ((ix c.Trace b).Op==17) then (jd p c b ((ix c.Trace b).Op==17)) else (jd p c b ((ix c.Trace b).Op==18))))
def je (p:cx) (c:jT) (b:Int) (a:Bool):Option (((Int) ⊕ (Bool))):=(bif a then (fq c b p.Cells) else (bif ((ix c.Trace b).Op==14) then (ib p c b ((ix c.Trace b).Op==14)) else (bif ((ix c.Trace b).Op==15) then (ib p c b ((ix c.Trace b).Op==15)) else (ib p c b ((ix c.Trace b).Op==16)))))
def ic (p:cx) (b:jT):Int->Option (((Int) ⊕ (Bool))):=λa=>(bif (decide (a<(b.Trace.length:Int))) then (bif ((decide ((0:Int)<=a))&&(decide (a<(b.Trace.length:Int)))) then (bif ((decide ((ix b.Trace a).Op<8))||((decide ((22:Int)<(ix b.Trace a).Op))||((decide ((ix b.Trace a).Task<1))||((decide ((64:Int)<(ix b.Trace a).Task))||((decide ((ix b.Trace a).Obj<0))||(decide ((20:Int)<(ix b.Trace a).Obj))))))) then (Option.map Sum.inr (some (false))) else (bif ((ix b.Trace a).Op==12) then (je p b a ((ix b.Trace a).Op==12)) else (je p b a ((ix b.Trace a).Op==13)))) else none) else (Option.map Sum.inr (some (true))))
def kn (p:cx) (a:jT):Option (Bool):=(dD (ic p a) (0))
def gA (a:Int) (c:List cy) (e b:Int) (d:List Bool):Option (((Int×Int×List Bool) ⊕ (Bool))):=(bif (((ix c e).Op==22)&&((e != (i64.wrap ((c.length:Int)-1)))||(a != 2))) then (Option.map Sum.inr (some (false))) else (some (Sum.inl (b,(i64.wrap (e+1)),d))))
def ik (a:Int) (b:List cy) (e:Int) (d:List Bool) (c:Int):Option (((Int×Int×List Bool) ⊕ (Bool))):=(bif ((ix b e).Op==9) then (bif ((decide ((0:Int)<=(ix b e).Task))&&(decide ((ix b e).Task<(d.length:Int)))) then (gA a b e c (d.set (ix b e).Task.toNat true)) else none) else (gA a b e c d))
def gB (d:List Int) (b:Int) (a:List Bool):Int->Option (((Int) ⊕ (Bool))):=λc=>(bif (decide (c<=b)) then (bif ((decide ((0:Int)<=(i64.wrap (c-1))))&&(decide ((i64.wrap (c-1))<(d.length:Int)))) then (bif ((decide ((0:Int)<=c))&&(decide (c<(a.length:Int)))) then (bif (((ix d (i64.wrap (c-1)))==3) != (ix a c)) then (Option.map Sum.inr (some (false))) else (some (Sum.inl ((i64.wrap (c+1)))))) else none) else none) else (Option.map Sum.inr (some (true))))
def jB (b:Int) (c:List cy) (f:List Int):Int×Int×(List Bool)->Option (((Int×Int×List Bool) ⊕ (Bool))):=λ(a,e,d)=>(bif (decide (e<(c.length:Int))) then (bif ((decide ((0:Int)<=e))&&(decide (e<(c.length:Int)))) then (bif ((!(!(decide (a<(ix c e).Task))))||((decide ((0:Int)<=(ix c e).Task))&&(decide ((ix c e).Task<(d.length:Int))))) then (bif ((decide (a<(ix c e).Task))||(ix d (ix c e).Task)) then (Option.map Sum.inr (some (false))) else (bif ((ix c e).Op==11) then (bif (((ix c e).Value != (i64.wrap (a+1)))||(decide ((64:Int)<(i64.wrap (a+1))))) then (Option.map Sum.inr (some (false))) else (ik b c e d (i64.wrap (a+1)))) else (ik b c e d a))) else none) else none) else (Option.map Sum.inr (bif ((!(!((f.length:Int) != a)))||(decide ((1:Int)<(d.length:Int)))) then (bif (((f.length:Int) != a)||(((b==1) != (ix d (1:Int)))||((b==4)&&(a != 64)))) then (some (false)) else (dD (gB f a d) (1))) else none)))
def gC (b:Bool) (a:Int) (c:List cy) (d:List Int):Option (Bool):=(bif b then (some (false)) else (bif (decide (0<=(66:Int)/\(66:Int)<=4611686018427387904/\(1:Int)*(66:Int)<=140737488355328)) then (dD (jB a c d) (1,0,(List.replicate ((66:Int)).toNat (default:Bool)))) else none))
def kF (p:cx) (e:Int) (d:List Int):Option (Bool):=(jb.bind λc=>(bif (!c) then (some (false)) else ((ij p e d).bind λa=>(bif (!a.2.2.2.1) then (some (true)) else ((kn p (jT.mk a.2.2.2.2.1 a.1 a.2.1 a.2.2.1 a.2.2.2.2.2.1 a.2.2.2.2.2.2)).bind λb=>(bif (!b) then (gC true a.1 a.2.2.2.2.1 a.2.2.2.2.2.1) else (bif (decide ((a.2.2.2.2.2.1.length:Int)<1)) then (gC true a.1 a.2.2.2.2.1 a.2.2.2.2.2.1) else (gC (decide ((64:Int)<(a.2.2.2.2.2.1.length:Int))) a.1 a.2.2.2.2.1 a.2.2.2.2.2.1))))))))
end
end Go.Proofs.YthcdpjkgdcpkmaaGreatDoor
