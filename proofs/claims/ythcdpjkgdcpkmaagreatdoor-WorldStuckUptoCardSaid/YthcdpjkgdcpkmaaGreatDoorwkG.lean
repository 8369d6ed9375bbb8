/-
 What laws of the chapter wk compute, and lemmas on it.
 No conditions.
-/
import Derived.Test.YthcdpjkgdcpkmaaGreatDoorwkA4
open Go.IntKind (i64)
set_option linter.unusedSimpArgs false
set_option linter.unusedVariables false
set_option linter.unusedSectionVars false
namespace Go.Proofs.YthcdpjkgdcpkmaaGreatDoor
noncomputable section
open Go Go.Sx
structure df where
 Op:Int
 A:Int
 B:Int
 deriving Inhabited,DecidableEq
instance : b_ df:=⟨3,λd=>[.v (.int .i64 d.Op),.v (.int .i64 d.A),.v (.int .i64 d.B)],λ_=>rfl,λ_=>rfl,λ_=>by simp only [iu,SV.st,kR,dc]⟩
@[push_cast] theorem NK (xs:List df):iX (fl xs)=true:=m4 (λ_=>rfl) xs
@[push_cast] theorem xf:b_.sz df=3:=rfl
@[push_cast] theorem MD (d:df):b_.cells d=[.v (.int .i64 d.Op),.v (.int .i64 d.A),.v (.int .i64 d.B)]:=rfl
@[push_cast] theorem Ng (xs:List df) (x0:Int) (x1:Int) (x2:Int):fl xs++[.v (.int .i64 x0),.v (.int .i64 x1),.v (.int .i64 x2)]=fl (xs++[df.mk x0 x1 x2]):=by rw [fG];rfl
@[push_cast] theorem ME (xs:List df) (i:Int):(fl xs).getD (i.toNat*3) (.v (.int .i64 0)) = .v (.int .i64 (ix xs i).Op):=by
 have:=fq xs i 0 (by decide) (.v (.int .i64 0):SV) rfl
 rw [xf,eG] at this
 exact this
@[push_cast] theorem Nh (xs:List df) (i:Int):(fl xs).getD (i.toNat*3+1) (.v (.int .i64 0)) = .v (.int .i64 (ix xs i).A):=by
 have:=fq xs i 1 (by decide) (.v (.int .i64 0):SV) rfl
 rw [xf] at this
 exact this
@[push_cast] theorem Ni (xs:List df) (i:Int):(fl xs).getD (i.toNat*3+2) (.v (.int .i64 0)) = .v (.int .i64 (ix xs i).B):=by
 have:=fq xs i 2 (by decide) (.v (.int .i64 0):SV) rfl
 rw [xf] at this
 exact this
structure cz where
 Code:(List df)
 Cells:Int
 Pipes:(List Int)
 Locks:Int
 Groups:Int
 deriving Inhabited,DecidableEq
instance : b_ cz:=⟨5,λd=>[.sl d.Code.length (fl d.Code),.v (.int .i64 d.Cells),.sl d.Pipes.length (fl d.Pipes),.v (.int .i64 d.Locks),.v (.int .i64 d.Groups)],λ_=>rfl,λ_=>rfl,λ_=>by simp only [iu,SV.st,kR,dc]⟩
@[push_cast] theorem ug:b_.sz cz=5:=rfl
@[push_cast] theorem AD (d:cz):b_.cells d=[.sl d.Code.length (fl d.Code),.v (.int .i64 d.Cells),.sl d.Pipes.length (fl d.Pipes),.v (.int .i64 d.Locks),.v (.int .i64 d.Groups)]:=rfl
@[push_cast] theorem LF (xs:List cz) (x0:(List df)) (x1:Int) (x2:(List Int)) (x3:Int) (x4:Int):fl xs++[.sl x0.length (fl x0),.v (.int .i64 x1),.sl x2.length (fl x2),.v (.int .i64 x3),.v (.int .i64 x4)]=fl (xs++[cz.mk x0 x1 x2 x3 x4]):=by rw [fG];rfl
@[push_cast] theorem Iu (xs:List cz) (i:Int):(fl xs).getD (i.toNat*5+1) (.v (.int .i64 0)) = .v (.int .i64 (ix xs i).Cells):=by
 have:=fq xs i 1 (by decide) (.v (.int .i64 0):SV) rfl
 rw [ug] at this
 exact this
@[push_cast] theorem Iv (xs:List cz) (i:Int):(fl xs).getD (i.toNat*5+3) (.v (.int .i64 0)) = .v (.int .i64 (ix xs i).Locks):=by
 have:=fq xs i 3 (by decide) (.v (.int .i64 0):SV) rfl
 rw [ug] at this
 exact this
@[push_cast] theorem Ic (xs:List cz) (i:Int):(fl xs).getD (i.toNat*5+4) (.v (.int .i64 0)) = .v (.int .i64 (ix xs i).Groups):=by
 have:=fq xs i 4 (by decide) (.v (.int .i64 0):SV) rfl
 rw [ug] at this
 exact this
structure cE where
 Code:Int
 At:Int
 deriving Inhabited,DecidableEq
instance : b_ cE:=⟨2,λd=>[.v (.int .i64 d.Code),.v (.int .i64 d.At)],λ_=>rfl,λ_=>rfl,λ_=>by simp only [iu,SV.st,kR,dc]⟩
@[push_cast] theorem Oi (xs:List cE):iX (fl xs)=true:=m4 (λ_=>rfl) xs
@[push_cast] theorem Dv:b_.sz cE=2:=rfl
@[push_cast] theorem Nj (d:cE):b_.cells d=[.v (.int .i64 d.Code),.v (.int .i64 d.At)]:=rfl
@[push_cast] theorem NL (xs:List cE) (x0:Int) (x1:Int):fl xs++[.v (.int .i64 x0),.v (.int .i64 x1)]=fl (xs++[cE.mk x0 x1]):=by rw [fG];rfl
@[push_cast] theorem LG (xs:List cE) (i:Int):(fl xs).getD (i.toNat*2) (.v (.int .i64 0)) = .v (.int .i64 (ix xs i).Code):=by
 have:=fq xs i 0 (by decide) (.v (.int .i64 0):SV) rfl
 rw [Dv,eG] at this
 exact this
@[push_cast] theorem Nk (xs:List cE) (i:Int):(fl xs).getD (i.toNat*2+1) (.v (.int .i64 0)) = .v (.int .i64 (ix xs i).At):=by
 have:=fq xs i 1 (by decide) (.v (.int .i64 0):SV) rfl
 rw [Dv] at this
 exact this
structure kind where
 name:ByteArray
 args:ByteArray
 deriving Inhabited,DecidableEq
instance : b_ kind:=⟨2,λd=>[.v (.string d.name),.v (.string d.args)],λ_=>rfl,λ_=>rfl,λ_=>by simp only [iu,SV.st,kR,dc]⟩
@[push_cast] theorem OH (xs:List kind):iX (fl xs)=true:=m4 (λ_=>rfl) xs
@[push_cast] theorem OQ:b_.sz kind=2:=rfl
@[push_cast] theorem NM (d:kind):b_.cells d=[.v (.string d.name),.v (.string d.args)]:=rfl
@[push_cast] theorem Oj (xs:List kind) (x0:ByteArray) (x1:ByteArray):fl xs++[.v (.string x0),.v (.string x1)]=fl (xs++[kind.mk x0 x1]):=by rw [fG];rfl
structure cq where
 pc:Int
 r:dn 8
 state:Int
 when:Int
 seq:Int
 deriving Inhabited,DecidableEq
instance : b_ cq:=⟨12,λd=>((.v (.int .i64 d.pc)::(b_.cells d.r++(.v (.int .i64 d.state)::(.v (.int .i64 d.when)::(.v (.int .i64 d.seq)::[]))))):List SV),(λ_=>by simp only [K0,gu,List.length_nil]),(λ_=>by simp only [K7,mK,List.all_nil,i_,Value.oneCell',dc]),λ_=>by simp only [Fh,iu,SV.st,kR,dc]⟩
@[push_cast] theorem OI (xs:List cq):iX (fl xs)=true:=m4 (λ_=>rfl) xs
@[push_cast] theorem xF:b_.sz cq=12:=rfl
@[push_cast] theorem NN (d:cq):b_.cells d=((.v (.int .i64 d.pc)::(b_.cells d.r++(.v (.int .i64 d.state)::(.v (.int .i64 d.when)::(.v (.int .i64 d.seq)::[]))))):List SV):=rfl
@[push_cast] theorem Ol (xs:List cq) (x0:Int) (x1:dn 8) (x9:Int) (x10:Int) (x11:Int):fl xs++((.v (.int .i64 x0)::(b_.cells x1++(.v (.int .i64 x9)::(.v (.int .i64 x10)::(.v (.int .i64 x11)::[]))))):List SV)=fl (xs++[cq.mk x0 x1 x9 x10 x11]):=by rw [fG];rfl
@[push_cast] theorem NO (xs:List cq) (i:Int):(fl xs).getD (i.toNat*12) (.v (.int .i64 0)) = .v (.int .i64 (ix xs i).pc):=by
 have:=fq xs i 0 (by decide) (.v (.int .i64 0):SV) rfl
 rw [xF,eG] at this
 exact this
@[push_cast] theorem LH (xs:List cq) (i:Int):(fl xs).getD (i.toNat*12+9) (.v (.int .i64 0)) = .v (.int .i64 (ix xs i).state):=by
 have:=fq xs i 9 (by decide) (.v (.int .i64 0):SV) rfl
 rw [xF] at this
 exact this
@[push_cast] theorem MF (xs:List cq) (i:Int):(fl xs).getD (i.toNat*12+10) (.v (.int .i64 0)) = .v (.int .i64 (ix xs i).when):=by
 have:=fq xs i 10 (by decide) (.v (.int .i64 0):SV) rfl
 rw [xF] at this
 exact this
@[push_cast] theorem Nl (xs:List cq) (i:Int):(fl xs).getD (i.toNat*12+11) (.v (.int .i64 0)) = .v (.int .i64 (ix xs i).seq):=by
 have:=fq xs i 11 (by decide) (.v (.int .i64 0):SV) rfl
 rw [xF] at this
 exact this
structure bV where
 now:Int
 Ring_Next:Int
 Ring_List:(List Int)
 deriving Inhabited,DecidableEq
instance : b_ bV:=⟨3,λd=>[.v (.int .i64 d.now),.v (.int .i64 d.Ring_Next),.sl d.Ring_List.length (fl d.Ring_List)],λ_=>rfl,λ_=>rfl,λ_=>by simp only [iu,SV.st,kR,dc]⟩
@[push_cast] theorem xg:b_.sz bV=3:=rfl
@[push_cast] theorem JF (d:bV):b_.cells d=[.v (.int .i64 d.now),.v (.int .i64 d.Ring_Next),.sl d.Ring_List.length (fl d.Ring_List)]:=rfl
@[push_cast] theorem K_ (xs:List bV) (x0:Int) (x1:Int) (x2:(List Int)):fl xs++[.v (.int .i64 x0),.v (.int .i64 x1),.sl x2.length (fl x2)]=fl (xs++[bV.mk x0 x1 x2]):=by rw [fG];rfl
@[push_cast] theorem Jj (xs:List bV) (i:Int):(fl xs).getD (i.toNat*3) (.v (.int .i64 0)) = .v (.int .i64 (ix xs i).now):=by
 have:=fq xs i 0 (by decide) (.v (.int .i64 0):SV) rfl
 rw [xg,eG] at this
 exact this
@[push_cast] theorem EA (xs:List bV) (i:Int):(fl xs).getD (i.toNat*3+1) (.v (.int .i64 0)) = .v (.int .i64 (ix xs i).Ring_Next):=by
 have:=fq xs i 1 (by decide) (.v (.int .i64 0):SV) rfl
 rw [xg] at this
 exact this
structure cI where
 Task:Int
 Case:Int
 Value:Int
 deriving Inhabited,DecidableEq
instance : b_ cI:=⟨3,λd=>[.v (.int .i64 d.Task),.v (.int .i64 d.Case),.v (.int .i64 d.Value)],λ_=>rfl,λ_=>rfl,λ_=>by simp only [iu,SV.st,kR,dc]⟩
@[push_cast] theorem Om (xs:List cI):iX (fl xs)=true:=m4 (λ_=>rfl) xs
@[push_cast] theorem yI:b_.sz cI=3:=rfl
@[push_cast] theorem Nn (d:cI):b_.cells d=[.v (.int .i64 d.Task),.v (.int .i64 d.Case),.v (.int .i64 d.Value)]:=rfl
@[push_cast] theorem NP (xs:List cI) (x0:Int) (x1:Int) (x2:Int):fl xs++[.v (.int .i64 x0),.v (.int .i64 x1),.v (.int .i64 x2)]=fl (xs++[cI.mk x0 x1 x2]):=by rw [fG];rfl
@[push_cast] theorem LI (xs:List cI) (i:Int):(fl xs).getD (i.toNat*3) (.v (.int .i64 0)) = .v (.int .i64 (ix xs i).Task):=by
 have:=fq xs i 0 (by decide) (.v (.int .i64 0):SV) rfl
 rw [yI,eG] at this
 exact this
@[push_cast] theorem LJ (xs:List cI) (i:Int):(fl xs).getD (i.toNat*3+1) (.v (.int .i64 0)) = .v (.int .i64 (ix xs i).Case):=by
 have:=fq xs i 1 (by decide) (.v (.int .i64 0):SV) rfl
 rw [yI] at this
 exact this
@[push_cast] theorem La (xs:List cI) (i:Int):(fl xs).getD (i.toNat*3+2) (.v (.int .i64 0)) = .v (.int .i64 (ix xs i).Value):=by
 have:=fq xs i 2 (by decide) (.v (.int .i64 0):SV) rfl
 rw [yI] at this
 exact this
structure cR where
 Cap:Int
 Items:(List Int)
 Closed:Bool
 Senders:(List cI)
 Getters:(List cI)
 deriving Inhabited,DecidableEq
instance : b_ cR:=⟨5,λd=>[.v (.int .i64 d.Cap),.sl d.Items.length (fl d.Items),.v (.bool d.Closed),.sl d.Senders.length (fl d.Senders),.sl d.Getters.length (fl d.Getters)],λ_=>rfl,λ_=>rfl,λ_=>by simp only [iu,SV.st,kR,dc]⟩
@[push_cast] theorem Fo:b_.sz cR=5:=rfl
@[push_cast] theorem NQ (d:cR):b_.cells d=[.v (.int .i64 d.Cap),.sl d.Items.length (fl d.Items),.v (.bool d.Closed),.sl d.Senders.length (fl d.Senders),.sl d.Getters.length (fl d.Getters)]:=rfl
@[push_cast] theorem On (xs:List cR) (x0:Int) (x1:(List Int)) (x2:Bool) (x3:(List cI)) (x4:(List cI)):fl xs++[.v (.int .i64 x0),.sl x1.length (fl x1),.v (.bool x2),.sl x3.length (fl x3),.sl x4.length (fl x4)]=fl (xs++[cR.mk x0 x1 x2 x3 x4]):=by rw [fG];rfl
@[push_cast] theorem No (xs:List cR) (i:Int):(fl xs).getD (i.toNat*5) (.v (.int .i64 0)) = .v (.int .i64 (ix xs i).Cap):=by
 have:=fq xs i 0 (by decide) (.v (.int .i64 0):SV) rfl
 rw [Fo,eG] at this
 exact this
@[push_cast] theorem Lb (xs:List cR) (i:Int):(fl xs).getD (i.toNat*5+2) (.v (.bool false)) = .v (.bool (ix xs i).Closed):=by
 have:=fq xs i 2 (by decide) (.v (.bool false):SV) rfl
 rw [Fo] at this
 exact this
structure dR where
 Task:Int
 Write:Bool
 N:Int
 deriving Inhabited,DecidableEq
instance : b_ dR:=⟨3,λd=>[.v (.int .i64 d.Task),.v (.bool d.Write),.v (.int .i64 d.N)],λ_=>rfl,λ_=>rfl,λ_=>by simp only [iu,SV.st,kR,dc]⟩
@[push_cast] theorem OJ (xs:List dR):iX (fl xs)=true:=m4 (λ_=>rfl) xs
@[push_cast] theorem AE:b_.sz dR=3:=rfl
@[push_cast] theorem NR (d:dR):b_.cells d=[.v (.int .i64 d.Task),.v (.bool d.Write),.v (.int .i64 d.N)]:=rfl
@[push_cast] theorem Oo (xs:List dR) (x0:Int) (x1:Bool) (x2:Int):fl xs++[.v (.int .i64 x0),.v (.bool x1),.v (.int .i64 x2)]=fl (xs++[dR.mk x0 x1 x2]):=by rw [fG];rfl
@[push_cast] theorem MG (xs:List dR) (i:Int):(fl xs).getD (i.toNat*3) (.v (.int .i64 0)) = .v (.int .i64 (ix xs i).Task):=by
 have:=fq xs i 0 (by decide) (.v (.int .i64 0):SV) rfl
 rw [AE,eG] at this
 exact this
@[push_cast] theorem LK (xs:List dR) (i:Int):(fl xs).getD (i.toNat*3+1) (.v (.bool false)) = .v (.bool (ix xs i).Write):=by
 have:=fq xs i 1 (by decide) (.v (.bool false):SV) rfl
 rw [AE] at this
 exact this
@[push_cast] theorem Oq (xs:List dR) (i:Int):(fl xs).getD (i.toNat*3+2) (.v (.int .i64 0)) = .v (.int .i64 (ix xs i).N):=by
 have:=fq xs i 2 (by decide) (.v (.int .i64 0):SV) rfl
 rw [AE] at this
 exact this
structure dj where
 Readers:Int
 Writer:Bool
 Line:(List dR)
 deriving Inhabited,DecidableEq
instance : b_ dj:=⟨3,λd=>[.v (.int .i64 d.Readers),.v (.bool d.Writer),.sl d.Line.length (fl d.Line)],λ_=>rfl,λ_=>rfl,λ_=>by simp only [iu,SV.st,kR,dc]⟩
@[push_cast] theorem Fp:b_.sz dj=3:=rfl
@[push_cast] theorem NS (d:dj):b_.cells d=[.v (.int .i64 d.Readers),.v (.bool d.Writer),.sl d.Line.length (fl d.Line)]:=rfl
@[push_cast] theorem Ot (xs:List dj) (x0:Int) (x1:Bool) (x2:(List dR)):fl xs++[.v (.int .i64 x0),.v (.bool x1),.sl x2.length (fl x2)]=fl (xs++[dj.mk x0 x1 x2]):=by rw [fG];rfl
@[push_cast] theorem JG (xs:List dj) (i:Int):(fl xs).getD (i.toNat*3) (.v (.int .i64 0)) = .v (.int .i64 (ix xs i).Readers):=by
 have:=fq xs i 0 (by decide) (.v (.int .i64 0):SV) rfl
 rw [Fp,eG] at this
 exact this
@[push_cast] theorem Lc (xs:List dj) (i:Int):(fl xs).getD (i.toNat*3+1) (.v (.bool false)) = .v (.bool (ix xs i).Writer):=by
 have:=fq xs i 1 (by decide) (.v (.bool false):SV) rfl
 rw [Fp] at this
 exact this
structure cY where
 Count:Int
 Line:(List Int)
 deriving Inhabited,DecidableEq
instance : b_ cY:=⟨2,λd=>[.v (.int .i64 d.Count),.sl d.Line.length (fl d.Line)],λ_=>rfl,λ_=>rfl,λ_=>by simp only [iu,SV.st,kR,dc]⟩
@[push_cast] theorem Jk:b_.sz cY=2:=rfl
@[push_cast] theorem Np (d:cY):b_.cells d=[.v (.int .i64 d.Count),.sl d.Line.length (fl d.Line)]:=rfl
@[push_cast] theorem NT (xs:List cY) (x0:Int) (x1:(List Int)):fl xs++[.v (.int .i64 x0),.sl x1.length (fl x1)]=fl (xs++[cY.mk x0 x1]):=by rw [fG];rfl
@[push_cast] theorem Ld (xs:List cY) (i:Int):(fl xs).getD (i.toNat*2) (.v (.int .i64 0)) = .v (.int .i64 (ix xs i).Count):=by
 have:=fq xs i 0 (by decide) (.v (.int .i64 0):SV) rfl
 rw [Jk,eG] at this
 exact this
structure cy where
 Task:Int
 Op:Int
 Obj:Int
 Value:Int
 deriving Inhabited,DecidableEq
instance : b_ cy:=⟨4,λd=>[.v (.int .i64 d.Task),.v (.int .i64 d.Op),.v (.int .i64 d.Obj),.v (.int .i64 d.Value)],λ_=>rfl,λ_=>rfl,λ_=>by simp only [iu,SV.st,kR,dc]⟩
@[push_cast] theorem NU (xs:List cy):iX (fl xs)=true:=m4 (λ_=>rfl) xs
@[push_cast] theorem tQ:b_.sz cy=4:=rfl
@[push_cast] theorem MH (d:cy):b_.cells d=[.v (.int .i64 d.Task),.v (.int .i64 d.Op),.v (.int .i64 d.Obj),.v (.int .i64 d.Value)]:=rfl
@[push_cast] theorem Nq (xs:List cy) (x0:Int) (x1:Int) (x2:Int) (x3:Int):fl xs++[.v (.int .i64 x0),.v (.int .i64 x1),.v (.int .i64 x2),.v (.int .i64 x3)]=fl (xs++[cy.mk x0 x1 x2 x3]):=by rw [fG];rfl
@[push_cast] theorem Le (xs:List cy) (i:Int):(fl xs).getD (i.toNat*4) (.v (.int .i64 0)) = .v (.int .i64 (ix xs i).Task):=by
 have:=fq xs i 0 (by decide) (.v (.int .i64 0):SV) rfl
 rw [tQ,eG] at this
 exact this
@[push_cast] theorem MI (xs:List cy) (i:Int):(fl xs).getD (i.toNat*4+1) (.v (.int .i64 0)) = .v (.int .i64 (ix xs i).Op):=by
 have:=fq xs i 1 (by decide) (.v (.int .i64 0):SV) rfl
 rw [tQ] at this
 exact this
@[push_cast] theorem LL (xs:List cy) (i:Int):(fl xs).getD (i.toNat*4+2) (.v (.int .i64 0)) = .v (.int .i64 (ix xs i).Obj):=by
 have:=fq xs i 2 (by decide) (.v (.int .i64 0):SV) rfl
 rw [tQ] at this
 exact this
@[push_cast] theorem JH (xs:List cy) (i:Int):(fl xs).getD (i.toNat*4+3) (.v (.int .i64 0)) = .v (.int .i64 (ix xs i).Value):=by
 have:=fq xs i 3 (by decide) (.v (.int .i64 0):SV) rfl
 rw [tQ] at this
 exact this
structure fA where
 Next:Int
 List:(List Int)
 deriving Inhabited,DecidableEq
instance : b_ fA:=⟨2,λd=>[.v (.int .i64 d.Next),.sl d.List.length (fl d.List)],λ_=>rfl,λ_=>rfl,λ_=>by simp only [iu,SV.st,kR,dc]⟩
@[push_cast] theorem Lf:b_.sz fA=2:=rfl
@[push_cast] theorem NV (d:fA):b_.cells d=[.v (.int .i64 d.Next),.sl d.List.length (fl d.List)]:=rfl
@[push_cast] theorem Ou (xs:List fA) (x0:Int) (x1:(List Int)):fl xs++[.v (.int .i64 x0),.sl x1.length (fl x1)]=fl (xs++[fA.mk x0 x1]):=by rw [fG];rfl
@[push_cast] theorem MJ (xs:List fA) (i:Int):(fl xs).getD (i.toNat*2) (.v (.int .i64 0)) = .v (.int .i64 (ix xs i).Next):=by
 have:=fq xs i 0 (by decide) (.v (.int .i64 0):SV) rfl
 rw [Lf,eG] at this
 exact this
structure de where
 Task:Int
 Case:Int
 Value:Int
 Ok:Bool
 Panic:Bool
 deriving Inhabited,DecidableEq
instance : b_ de:=⟨5,λd=>[.v (.int .i64 d.Task),.v (.int .i64 d.Case),.v (.int .i64 d.Value),.v (.bool d.Ok),.v (.bool d.Panic)],λ_=>rfl,λ_=>rfl,λ_=>by simp only [iu,SV.st,kR,dc]⟩
@[push_cast] theorem Ov (xs:List de):iX (fl xs)=true:=m4 (λ_=>rfl) xs
@[push_cast] theorem tf:b_.sz de=5:=rfl
@[push_cast] theorem Nr (d:de):b_.cells d=[.v (.int .i64 d.Task),.v (.int .i64 d.Case),.v (.int .i64 d.Value),.v (.bool d.Ok),.v (.bool d.Panic)]:=rfl
@[push_cast] theorem NW (xs:List de) (x0:Int) (x1:Int) (x2:Int) (x3:Bool) (x4:Bool):fl xs++[.v (.int .i64 x0),.v (.int .i64 x1),.v (.int .i64 x2),.v (.bool x3),.v (.bool x4)]=fl (xs++[de.mk x0 x1 x2 x3 x4]):=by rw [fG];rfl
@[push_cast] theorem LM (xs:List de) (i:Int):(fl xs).getD (i.toNat*5) (.v (.int .i64 0)) = .v (.int .i64 (ix xs i).Task):=by
 have:=fq xs i 0 (by decide) (.v (.int .i64 0):SV) rfl
 rw [tf,eG] at this
 exact this
@[push_cast] theorem LN (xs:List de) (i:Int):(fl xs).getD (i.toNat*5+1) (.v (.int .i64 0)) = .v (.int .i64 (ix xs i).Case):=by
 have:=fq xs i 1 (by decide) (.v (.int .i64 0):SV) rfl
 rw [tf] at this
 exact this
@[push_cast] theorem Lg (xs:List de) (i:Int):(fl xs).getD (i.toNat*5+2) (.v (.int .i64 0)) = .v (.int .i64 (ix xs i).Value):=by
 have:=fq xs i 2 (by decide) (.v (.int .i64 0):SV) rfl
 rw [tf] at this
 exact this
@[push_cast] theorem Ns (xs:List de) (i:Int):(fl xs).getD (i.toNat*5+3) (.v (.bool false)) = .v (.bool (ix xs i).Ok):=by
 have:=fq xs i 3 (by decide) (.v (.bool false):SV) rfl
 rw [tf] at this
 exact this
@[push_cast] theorem Lh (xs:List de) (i:Int):(fl xs).getD (i.toNat*5+4) (.v (.bool false)) = .v (.bool (ix xs i).Panic):=by
 have:=fq xs i 4 (by decide) (.v (.bool false):SV) rfl
 rw [tf] at this
 exact this
structure lk where
 Done:Bool
 Panic:Bool
 Ok:Bool
 Value:Int
 Case:Int
 Wakes:(List de)
 deriving Inhabited,DecidableEq
instance : b_ lk:=⟨6,λd=>[.v (.bool d.Done),.v (.bool d.Panic),.v (.bool d.Ok),.v (.int .i64 d.Value),.v (.int .i64 d.Case),.sl d.Wakes.length (fl d.Wakes)],λ_=>rfl,λ_=>rfl,λ_=>by simp only [iu,SV.st,kR,dc]⟩
@[push_cast] theorem rO:b_.sz lk=6:=rfl
@[push_cast] theorem MK (d:lk):b_.cells d=[.v (.bool d.Done),.v (.bool d.Panic),.v (.bool d.Ok),.v (.int .i64 d.Value),.v (.int .i64 d.Case),.sl d.Wakes.length (fl d.Wakes)]:=rfl
@[push_cast] theorem Nt (xs:List lk) (x0:Bool) (x1:Bool) (x2:Bool) (x3:Int) (x4:Int) (x5:(List de)):fl xs++[.v (.bool x0),.v (.bool x1),.v (.bool x2),.v (.int .i64 x3),.v (.int .i64 x4),.sl x5.length (fl x5)]=fl (xs++[lk.mk x0 x1 x2 x3 x4 x5]):=by rw [fG];rfl
@[push_cast] theorem Li (xs:List lk) (i:Int):(fl xs).getD (i.toNat*6) (.v (.bool false)) = .v (.bool (ix xs i).Done):=by
 have:=fq xs i 0 (by decide) (.v (.bool false):SV) rfl
 rw [rO,eG] at this
 exact this
@[push_cast] theorem JI (xs:List lk) (i:Int):(fl xs).getD (i.toNat*6+1) (.v (.bool false)) = .v (.bool (ix xs i).Panic):=by
 have:=fq xs i 1 (by decide) (.v (.bool false):SV) rfl
 rw [rO] at this
 exact this
@[push_cast] theorem ML (xs:List lk) (i:Int):(fl xs).getD (i.toNat*6+2) (.v (.bool false)) = .v (.bool (ix xs i).Ok):=by
 have:=fq xs i 2 (by decide) (.v (.bool false):SV) rfl
 rw [rO] at this
 exact this
@[push_cast] theorem JJ (xs:List lk) (i:Int):(fl xs).getD (i.toNat*6+3) (.v (.int .i64 0)) = .v (.int .i64 (ix xs i).Value):=by
 have:=fq xs i 3 (by decide) (.v (.int .i64 0):SV) rfl
 rw [rO] at this
 exact this
@[push_cast] theorem Lj (xs:List lk) (i:Int):(fl xs).getD (i.toNat*6+4) (.v (.int .i64 0)) = .v (.int .i64 (ix xs i).Case):=by
 have:=fq xs i 4 (by decide) (.v (.int .i64 0):SV) rfl
 rw [rO] at this
 exact this
structure m5 where
 Trace:(List cy)
 State:Int
 Steps:Int
 Now:Int
 Tasks:(List Int)
 Cells:(List Int)
 deriving Inhabited,DecidableEq
instance : b_ m5:=⟨6,λd=>[.sl d.Trace.length (fl d.Trace),.v (.int .i64 d.State),.v (.int .i64 d.Steps),.v (.int .i64 d.Now),.sl d.Tasks.length (fl d.Tasks),.sl d.Cells.length (fl d.Cells)],λ_=>rfl,λ_=>rfl,λ_=>by simp only [iu,SV.st,kR,dc]⟩
@[push_cast] theorem xh:b_.sz m5=6:=rfl
@[push_cast] theorem MM (d:m5):b_.cells d=[.sl d.Trace.length (fl d.Trace),.v (.int .i64 d.State),.v (.int .i64 d.Steps),.v (.int .i64 d.Now),.sl d.Tasks.length (fl d.Tasks),.sl d.Cells.length (fl d.Cells)]:=rfl
@[push_cast] theorem Nu (xs:List m5) (x0:(List cy)) (x1:Int) (x2:Int) (x3:Int) (x4:(List Int)) (x5:(List Int)):fl xs++[.sl x0.length (fl x0),.v (.int .i64 x1),.v (.int .i64 x2),.v (.int .i64 x3),.sl x4.length (fl x4),.sl x5.length (fl x5)]=fl (xs++[m5.mk x0 x1 x2 x3 x4 x5]):=by rw [fG];rfl
@[push_cast] theorem JK (xs:List m5) (i:Int):(fl xs).getD (i.toNat*6+1) (.v (.int .i64 0)) = .v (.int .i64 (ix xs i).State):=by
 have:=fq xs i 1 (by decide) (.v (.int .i64 0):SV) rfl
 rw [xh] at this
 exact this
@[push_cast] theorem JL (xs:List m5) (i:Int):(fl xs).getD (i.toNat*6+2) (.v (.int .i64 0)) = .v (.int .i64 (ix xs i).Steps):=by
 have:=fq xs i 2 (by decide) (.v (.int .i64 0):SV) rfl
 rw [xh] at this
 exact this
@[push_cast] theorem LO (xs:List m5) (i:Int):(fl xs).getD (i.toNat*6+3) (.v (.int .i64 0)) = .v (.int .i64 (ix xs i).Now):=by
 have:=fq xs i 3 (by decide) (.v (.int .i64 0):SV) rfl
 rw [xh] at this
 exact this
def ie:List kind:=[⟨⟨#[]⟩,⟨#[]⟩⟩,⟨⟨#[115,101,116]⟩,⟨#[114,110]⟩⟩,⟨⟨#[99,111,112,121]⟩,⟨#[114,114]⟩⟩,⟨⟨#[97,100,100]⟩,⟨#[114,114]⟩⟩,⟨⟨#[115,117,98]⟩,⟨#[114,114]⟩⟩,⟨⟨#[108,101,115,115]⟩,⟨#[114,114]⟩⟩,⟨⟨#[106,117,109,112]⟩,⟨#[99,45]⟩⟩,⟨⟨#[122,101,114,111]⟩,⟨#[114,99]⟩⟩,⟨⟨#[112,114,105,110,116]⟩,⟨#[114,45]⟩⟩,⟨⟨#[101,110,100]⟩,⟨#[45,45]⟩⟩,⟨⟨#[121,105,101,108,100]⟩,⟨#[45,45]⟩⟩,⟨⟨#[103,111]⟩,⟨#[99,114]⟩⟩,⟨⟨#[108,111,97,100]⟩,⟨#[114,109]⟩⟩,⟨⟨#[115,116,111,114,101]⟩,⟨#[109,114]⟩⟩,⟨⟨#[115,101,110,100]⟩,⟨#[112,114]⟩⟩,⟨⟨#[103,101,116]⟩,⟨#[114,112]⟩⟩,⟨⟨#[115,104,117,116]⟩,⟨#[112,45]⟩⟩,⟨⟨#[108,111,99,107]⟩,⟨#[108,107]⟩⟩,⟨⟨#[117,110,108,111,99,107]⟩,⟨#[108,107]⟩⟩,⟨⟨#[99,111,117,110,116]⟩,⟨#[103,114]⟩⟩,⟨⟨#[119,97,105,116]⟩,⟨#[103,45]⟩⟩,⟨⟨#[115,108,101,101,112]⟩,⟨#[114,45]⟩⟩,⟨⟨#[112,97,110,105,99]⟩,⟨#[45,45]⟩⟩]
def f7:List ByteArray:=[⟨#[]⟩,⟨#[114,110]⟩,⟨#[114,114]⟩,⟨#[114,114]⟩,⟨#[114,114]⟩,⟨#[114,114]⟩,⟨#[99,45]⟩,⟨#[114,99]⟩,⟨#[114,45]⟩,⟨#[45,45]⟩,⟨#[45,45]⟩,⟨#[99,114]⟩,⟨#[114,109]⟩,⟨#[109,114]⟩,⟨#[112,114]⟩,⟨#[114,112]⟩,⟨#[112,45]⟩,⟨#[108,107]⟩,⟨#[108,107]⟩,⟨#[103,114]⟩,⟨#[103,45]⟩,⟨#[114,45]⟩,⟨#[45,45]⟩]
def nA (a b:Int):Option (cE):=(some ((cE.mk a b)))
def rP (p:cz) (k x:Int):Option (Bool):=(bif (k==110) then (some (true)) else (some (((decide ((0:Int)<=x))&&(decide (x<(fX [(114,8),(99,(p.Code.length:Int)),(109,p.Cells),(112,(p.Pipes.length:Int)),(108,p.Locks),(103,p.Groups),(107,2),(45,1)] k)))))))
def pE (a:Int) (b:Bool):Option (((Int) ⊕ (cE))):=(bif b then ((nA 5 a).bind λc=>(Option.map Sum.inr (some (c)))) else (some (Sum.inl ((i64.wrap (a+1))))))
def jf (p:cz):Int->Option (((Int) ⊕ (cE))):=λa=>(bif (decide (a<(p.Code.length:Int))) then (bif ((decide ((0:Int)<=a))&&(decide (a<(p.Code.length:Int)))) then (bif ((decide ((ix p.Code a).Op<1))||(decide ((23:Int)<=(ix p.Code a).Op))) then ((nA 4 a).bind λb=>(Option.map Sum.inr (some (b)))) else (bif ((decide ((0:Int)<=(ix p.Code a).Op))&&(decide ((ix p.Code a).Op<(ie.length:Int)))) then (bif (decide ((0:Int)<((((ix ie (ix p.Code a).Op).args).size:Nat):Int))) then ((rP p ((((ix ie (ix p.Code a).Op).args).data.getD ((0:Int)).toNat 0).toNat:Int) (ix p.Code a).A).bind λc=>(bif (!c) then (pE a true) else (bif (decide ((1:Int)<((((ix ie (ix p.Code a).Op).args).size:Nat):Int))) then ((rP p ((((ix ie (ix p.Code a).Op).args).data.getD ((1:Int)).toNat 0).toNat:Int) (ix p.Code a).B).bind λd=>(pE a (!d))) else none))) else none) else none)) else none) else (Option.map Sum.inr (some ((cE.mk 0 0)))))
def mf (p:cz):Int->Option (((Int) ⊕ (cE))):=λa=>(bif (decide (a<(p.Pipes.length:Int))) then (bif ((decide ((0:Int)<=a))&&(decide (a<(p.Pipes.length:Int)))) then (bif ((decide ((ix p.Pipes a)<0))||(decide ((100:Int)<(ix p.Pipes a)))) then ((nA 8 a).bind λb=>(Option.map Sum.inr (some (b)))) else (some (Sum.inl ((i64.wrap (a+1)))))) else none) else (Option.map Sum.inr (dB (jf p) (0))))
def qo (p:cz):Option (cE):=(bif ((decide ((1000:Int)<(p.Code.length:Int)))||(decide ((20:Int)<(p.Pipes.length:Int)))) then ((nA 2 0).bind λb=>(some (b))) else (bif ((decide ((min (min p.Cells p.Locks) p.Groups)<0))||(decide ((20:Int)<(max (max p.Cells p.Locks) p.Groups)))) then ((nA 3 0).bind λa=>(some (a))) else (dB (mf p) (0))))
def pq (a b:Int):Option (cE):=(some ((cE.mk a b)))
def kg (p:cz) (c:List bV):Int×(List cR)->Option (((Int×List cR) ⊕ ((List Int)×List cq×List bV×List Int×List cR×List dj×List cY))):=λ(a,b)=>(bif (decide (a<(p.Pipes.length:Int))) then (bif ((decide ((0:Int)<=a))&&(decide (a<(p.Pipes.length:Int)))) then (bif (decide ((b++([(cR.mk (ix p.Pipes a) [] false [] [])]:List cR)).length*88<=140737488355328)) then (some (Sum.inl ((i64.wrap (a+1)),(b++([(cR.mk (ix p.Pipes a) [] false [] [])]:List cR))))) else none) else none) else (Option.map Sum.inr (bif (decide (0<=p.Locks/\p.Locks<=4611686018427387904/\(40:Int)*p.Locks<=140737488355328)) then (bif (decide (0<=p.Groups/\p.Groups<=4611686018427387904/\(32:Int)*p.Groups<=140737488355328)) then (some ((List.replicate (p.Cells).toNat (default:Int)),([((cq.mk 0 (default:(dn 8)) 0 0 0):cq)]:List cq),c,([1]:List Int),b,(List.replicate (p.Locks).toNat (default:dj)),(List.replicate (p.Groups).toNat (default:cY)))) else none) else none)))
def kh (p:cz) (c:Int):Int×(List bV)->Option (((Int×List bV) ⊕ ((List Int)×List cq×List bV×List Int×List cR×List dj×List cY))):=λ(a,b)=>(bif (decide (a<c)) then (bif (decide ((b++[((bV.mk 0 0 []):bV)]).length*8<=140737488355328)) then (some (Sum.inl ((i64.wrap (a+1)),(b++[((bV.mk 0 0 []):bV)])))) else none) else (Option.map Sum.inr (dB (kg p b) (0,[]))))
def lT (p:cz) (a:Int):Option ((List Int)×List cq×List bV×List Int×List cR×List dj×List cY):=(bif (decide (0<=p.Cells/\p.Cells<=4611686018427387904/\(8:Int)*p.Cells<=140737488355328)) then (dB (kh p a) (0,[])) else none)
def iB (m:(List (PT cq))) (t:Int):Option (cq):=(bif ((decide ((0:Int)<=(i64.wrap (t-1))))&&(decide ((i64.wrap (t-1))<(m.length:Int)))) then (some ((ix m (i64.wrap (t-1))).x)) else none)
def nM (x:Int):Option (Bool):=(some ((x != x)))
def kT (x y:Int):Option (Int):=((nM x).bind λb=>((nM y).bind λa=>(bif b then (bif a then (some (0)) else (some ((-1)))) else (bif a then (some (1)) else (bif (decide (x<y)) then (some ((-1))) else (bif (decide (y<x)) then (some (1)) else (some (0))))))))
def pF (b:List Int):Int->Option (((Int) ⊕ (Int))):=λa=>(bif (decide (a<(b.length:Int))) then (bif ((decide ((0:Int)<=a))&&(decide (a<(b.length:Int)))) then (bif ((ix b a) != 0) then (Option.map Sum.inr (some ((ix b a)))) else (some (Sum.inl ((i64.wrap (a+1)))))) else none) else (Option.map Sum.inr (some (0))))
def qp (a:List Int):Option (Int):=(dB (pF a) (0))
def eH (j b:Int) (i:(List (PT cq))):Option (Int):=((iB i j).bind λh=>((iB i b).bind λe=>((kT h.when e.when).bind λf=>((iB i j).bind λd=>((iB i b).bind λc=>((kT d.seq c.seq).bind λa=>((qp ([f,a]:List Int)).bind λg=>(some (g)))))))))
def ki (c0:List Int) (ts:(List (PT cq))):Option (List Int):=open Classical in if (∀ a b:Int,1<=a/\a<=((((c0.foldl max 0).toNat):Nat):Int)->1<=b/\b<=((((c0.foldl max 0).toNat):Nat):Int)->(eH a b ts).isSome=true)/\Go.Sort.SWO (Go.Proofs.ltOf λ(a b:Rg ((c0.foldl max 0).toNat))=>(λa b:Int=>(eH a b ts).getD 0) a.1 b.1)/\(∀ x∈c0,1<=x/\x<=((((c0.foldl max 0).toNat):Nat):Int))/\c0.length<4611686018427387904 then some (oU ((c0.foldl max 0).toNat) (λa b:Int=>(eH a b ts).getD 0) c0) else none
def iP (b:Int) (c:List cq) (a:List Int):Option (((Int×List cq×List Int) ⊕ (Int×List Int×List cq))):=(some (Sum.inl ((i64.wrap (b+1)),c,a)))
def j9 (c:Int) (g:List cq) (f:List Int):Int×List cq×(List Int)->Option (((Int×List cq×List Int) ⊕ (Int×List Int×List cq))):=λ(a,b,d)=>(bif (decide (a<(g.length:Int))) then (bif ((decide ((0:Int)<=a))&&(decide (a<(b.length:Int)))) then (bif (((ix b a).state==2)&&(decide ((ix b a).when<=(i64.wrap (c+1))))) then (bif (decide ((d++([(i64.wrap (a+1))]:List Int)).length*8<=140737488355328)) then (iP a (b.set a.toNat ((cq.mk (ix b a).pc (ix b a).r 0 (ix b a).when (ix b a).seq):cq)) (d++([(i64.wrap (a+1))]:List Int))) else none) else (iP a b d)) else none) else (Option.map Sum.inr ((ki d (b.map PT.mk)).bind λe=>(bif (decide (e.length=d.length)) then (bif (decide ((f++e).length*8<=140737488355328)) then (some ((i64.wrap (c+1)),(f++e),b)) else none) else none))))
def jP (a:Int) (b:List cq) (c:List Int):Option (Int×List Int×List cq):=(dB (j9 a b c) (0,b,[]))
def ii (a b:Int):Option (cE):=(some ((cE.mk a b)))
def mg (q:fA):Int×(List (Int×Int))->Option (((Int×(List (Int×Int))) ⊕ (cE))):=λ(a,b)=>(bif (decide (a<(q.List.length:Int))) then (bif ((decide ((0:Int)<=a))&&(decide (a<(q.List.length:Int)))) then (bif (decide ((ix q.List a)<1)) then ((ii 3 (i64.wrap (a+1))).bind λc=>(Option.map Sum.inr (some (c)))) else (bif (decide ((0:Int)<(fX b (ix q.List a)))) then ((ii 10 (i64.wrap (a+1))).bind λd=>(Option.map Sum.inr (some (d)))) else (some (Sum.inl ((i64.wrap (a+1)),(iy b (ix q.List a) 1)))))) else none) else (Option.map Sum.inr (some ((cE.mk 0 0)))))
def nN (q:fA) (a:(List (Int×Int))):Option (cE):=(dB (mg q) (0,a))
def kB (q:fA):Option (cE):=(bif (decide ((256:Int)<(q.List.length:Int))) then ((ii 2 0).bind λa=>(some (a))) else (bif (decide (q.Next<0)) then ((ii 3 0).bind λb=>(some (b))) else (bif (decide ((0:Int)<q.Next)) then (nN q (iy [] q.Next 1)) else (nN q []))))
def fh (s:List Int):Option ((List Int)):=(bif (decide ((([]:List Int)++s).length*8<=140737488355328)) then (some ((([]:List Int)++s))) else none)
def kC (q:fA):Option ((List Int)):=((fh q.List).bind λa=>(some (a)))
def i4 (q:fA):Option (Int×Int×cE×List Int):=((kB q).bind λb=>(bif (b.Code != 0) then (some (0,0,b,[])) else ((kC q).bind λa=>(bif (decide ((0:Int)<q.Next)) then (some (0,q.Next,(cE.mk 0 0),a)) else (bif ((a.length:Int)==0) then ((ii 6 0).bind λc=>(some (0,0,c,[]))) else (bif (decide ((0:Int)<(a.length:Int))) then (bif (decide ((1:Int)<=(a.length:Int))) then ((fh (cut a (1:Int) (a.length:Int))).bind λd=>(some (q.Next,(ix a (0:Int)),(cE.mk 0 0),d))) else none) else none))))))
def fN (c:Int) (b:cE) (a:List bV):Option (Bool×List bV):=(bif (decide (0<=c/\c<(a.length:Int))) then (some ((b.Code==0),a)) else none)
def dV (b:Int) (c:List bV):Option (Bool×List bV):=(bif (decide (0<=b/\b<(c.length:Int))) then ((i4 (fA.mk (ix c b).Ring_Next (ix c b).Ring_List)).bind λa=>((λz0:List bV=>(bif (a.2.2.1.Code==0) then (fN b a.2.2.1 (z0.set b.toNat ((bV.mk a.2.1 (ix z0 b).Ring_Next (ix z0 b).Ring_List):bV))) else (fN b a.2.2.1 c))) (c.set b.toNat ((bV.mk (ix c b).now a.1 a.2.2.2):bV)))) else none)
def mM (q:fA):Option ((List Int)):=(bif (decide ((0:Int)<q.Next)) then (bif (decide ((([q.Next]:List Int)++q.List).length*8<=140737488355328)) then (some ((([q.Next]:List Int)++q.List))) else none) else ((fh q.List).bind λa=>(some (a))))
def nB (b:List Int):Int×(List (Int×Int))->Option (((Int×(List (Int×Int))) ⊕ (Int))):=λ(a,c)=>(bif (decide (a<(b.length:Int))) then (bif ((decide ((0:Int)<=a))&&(decide (a<(b.length:Int)))) then (bif (decide ((0:Int)<(fX c (ix b a)))) then (Option.map Sum.inr (some (a))) else (some (Sum.inl ((i64.wrap (a+1)),(iy c (ix b a) 1))))) else none) else (Option.map Sum.inr (some ((-1)))))
def nC (d b:List Int):Int×(List (Int×Int))->Option (((Int×(List (Int×Int))) ⊕ (Int))):=λ(a,c)=>(bif (decide (a<(d.length:Int))) then (bif ((decide ((0:Int)<=a))&&(decide (a<(d.length:Int)))) then (some (Sum.inl ((i64.wrap (a+1)),(iy c (ix d a) 1)))) else none) else (Option.map Sum.inr (dB (nB b) (0,c))))
def mh (a b:List Int):Option (Int):=(dB (nC a b) (0,[]))
def ko (q:fA) (a:Int) (c:List Int):Int->Option (((Int) ⊕ (Int×cE×List Int×List Int))):=λb=>(bif (decide (b<(c.length:Int))) then (bif ((decide ((0:Int)<=b))&&(decide (b<(c.length:Int)))) then (bif (decide ((ix c b)<1)) then ((ii 5 b).bind λh=>(Option.map Sum.inr (some (0,h,[],[])))) else (some (Sum.inl ((i64.wrap (b+1)))))) else none) else (Option.map Sum.inr ((mM q).bind λg=>((mh g c).bind λe=>(bif (decide ((0:Int)<=e)) then ((ii 8 e).bind λj=>(some (0,j,[],[]))) else (bif ((decide (a<1))||(decide ((64:Int)<a))) then ((ii 3 (-1)).bind λf=>(some (0,f,[],[]))) else (bif (a != 0) then ((kC q).bind λd=>(bif ((decide ((0:Int)<=(min (min (min (i64.wrap ((i64.wrap (Int.tdiv (c.length:Int) a))+1)) (c.length:Int)) 128) (i64.wrap ((256:Int)-(q.List.length:Int))))))&&(decide ((min (min (min (i64.wrap ((i64.wrap (Int.tdiv (c.length:Int) a))+1)) (c.length:Int)) 128) (i64.wrap ((256:Int)-(q.List.length:Int))))<=(c.length:Int)))) then (bif (decide ((d++(cut c (0:Int) (min (min (min (i64.wrap ((i64.wrap (Int.tdiv (c.length:Int) a))+1)) (c.length:Int)) 128) (i64.wrap ((256:Int)-(q.List.length:Int)))))).length*8<=140737488355328)) then (bif ((decide ((0:Int)<=(min (min (min (i64.wrap ((i64.wrap (Int.tdiv (c.length:Int) a))+1)) (c.length:Int)) 128) (i64.wrap ((256:Int)-(q.List.length:Int))))))&&(decide ((min (min (min (i64.wrap ((i64.wrap (Int.tdiv (c.length:Int) a))+1)) (c.length:Int)) 128) (i64.wrap ((256:Int)-(q.List.length:Int))))<=(c.length:Int)))) then ((fh (cut c (min (min (min (i64.wrap ((i64.wrap (Int.tdiv (c.length:Int) a))+1)) (c.length:Int)) 128) (i64.wrap ((256:Int)-(q.List.length:Int)))) (c.length:Int))).bind λi=>(some (q.Next,(cE.mk 0 0),(d++(cut c (0:Int) (min (min (min (i64.wrap ((i64.wrap (Int.tdiv (c.length:Int) a))+1)) (c.length:Int)) 128) (i64.wrap ((256:Int)-(q.List.length:Int)))))),i))) else none) else none) else none)) else none)))))))
def jg (q:fA) (c:Int) (d:List Int):Option (Int×cE×List Int×List Int):=((kB q).bind λa=>(bif (a.Code != 0) then (some (0,a,[],[])) else (bif (decide ((5000:Int)<(d.length:Int))) then ((ii 2 (-1)).bind λb=>(some (0,b,[],[]))) else (dB (ko q c d) (0)))))
def jh (c f:fA) (k:Bool):Int->Option (((Int) ⊕ (Int×Int×Int×cE×List Int×List Int))):=λd=>(bif (decide (d<((([c,f]:List fA).length:Nat):Int))) then (bif ((decide ((0:Int)<=d))&&(decide (d<((([c,f]:List fA).length:Nat):Int)))) then ((kB (ix ([c,f]:List fA) d)).bind λe=>(bif (e.Code != 0) then (Option.map Sum.inr (some (0,0,0,e,[],[]))) else (some (Sum.inl ((i64.wrap (d+1))))))) else none) else (Option.map Sum.inr ((mM c).bind λh=>((mM f).bind λi=>((mh h i).bind λj=>(bif (decide ((0:Int)<=j)) then ((ii 8 0).bind λg=>(some (0,0,0,g,[],[]))) else ((kC c).bind λa=>((kC f).bind λb=>(bif ((a.length:Int)==0) then (bif ((!k)||((c.Next==0)||((i64.wrap ((256:Int)-(b.length:Int)))==0))) then (some (c.Next,f.Next,0,(cE.mk 0 0),a,b)) else (bif (decide ((b++([c.Next]:List Int)).length*8<=140737488355328)) then (some (0,f.Next,1,(cE.mk 0 0),a,(b++([c.Next]:List Int)))) else none)) else (bif ((decide ((0:Int)<=(min (i64.wrap ((a.length:Int)-(i64.wrap (Int.tdiv (a.length:Int) 2)))) (i64.wrap ((256:Int)-(b.length:Int))))))&&(decide ((min (i64.wrap ((a.length:Int)-(i64.wrap (Int.tdiv (a.length:Int) 2)))) (i64.wrap ((256:Int)-(b.length:Int))))<=(a.length:Int)))) then (bif (decide ((b++(cut a (0:Int) (min (i64.wrap ((a.length:Int)-(i64.wrap (Int.tdiv (a.length:Int) 2)))) (i64.wrap ((256:Int)-(b.length:Int)))))).length*8<=140737488355328)) then (bif ((decide ((0:Int)<=(min (i64.wrap ((a.length:Int)-(i64.wrap (Int.tdiv (a.length:Int) 2)))) (i64.wrap ((256:Int)-(b.length:Int))))))&&(decide ((min (i64.wrap ((a.length:Int)-(i64.wrap (Int.tdiv (a.length:Int) 2)))) (i64.wrap ((256:Int)-(b.length:Int))))<=(a.length:Int)))) then ((fh (cut a (min (i64.wrap ((a.length:Int)-(i64.wrap (Int.tdiv (a.length:Int) 2)))) (i64.wrap ((256:Int)-(b.length:Int)))) (a.length:Int))).bind λl=>(some (c.Next,f.Next,(min (i64.wrap ((a.length:Int)-(i64.wrap (Int.tdiv (a.length:Int) 2)))) (i64.wrap ((256:Int)-(b.length:Int)))),(cE.mk 0 0),l,(b++(cut a (0:Int) (min (i64.wrap ((a.length:Int)-(i64.wrap (Int.tdiv (a.length:Int) 2)))) (i64.wrap ((256:Int)-(b.length:Int))))))))) else none) else none) else none))))))))))
def nD (b c:fA) (a:Bool):Option (Int×Int×Int×cE×List Int×List Int):=(dB (jh b c a) (0))
def j_ (p:Int) (e:List Int):Int×(List bV)->Option (((Int×List bV) ⊕ (Bool×List Int×List bV))):=λ(d,a)=>(bif (decide (0<=p/\p<(a.length:Int))) then (bif (decide (d<(a.length:Int))) then (bif ((a.length:Int) != 0) then (bif ((decide ((0:Int)<=(Int.tmod (i64.wrap (p+d)) (a.length:Int))))&&(decide ((Int.tmod (i64.wrap (p+d)) (a.length:Int))<(a.length:Int)))) then ((nD (fA.mk (ix a (Int.tmod (i64.wrap (p+d)) (a.length:Int))).Ring_Next (ix a (Int.tmod (i64.wrap (p+d)) (a.length:Int))).Ring_List) (fA.mk (ix a p).Ring_Next (ix a p).Ring_List) true).bind λb=>(bif (decide ((0:Int)<b.2.2.1)) then ((λz0:List bV=>((λz1:List bV=>((dV p z1).bind λc=>(bif (decide (c.2.length=z1.length)) then (bif (decide (0<=p/\p<(c.2.length:Int))) then (Option.map Sum.inr (some (c.1,e,c.2))) else none) else none))) (z0.set p.toNat ((bV.mk (ix z0 p).now b.2.1 b.2.2.2.2.2):bV)))) (a.set (Int.tmod (i64.wrap (p+d)) (a.length:Int)).toNat ((bV.mk (ix a (Int.tmod (i64.wrap (p+d)) (a.length:Int))).now b.1 b.2.2.2.2.1):bV))) else (some (Sum.inl ((i64.wrap (d+1)),a))))) else none) else none) else (Option.map Sum.inr (some (false,e,a)))) else none)
def gp (p:Int) (e:List bV) (d:List Int):Option (Bool×List Int×List bV):=(bif ((decide ((0:Int)<=p))&&(decide (p<(e.length:Int)))) then ((dV p e).bind λa=>(bif (decide (a.2.length=e.length)) then (bif (decide (0<=p/\p<(a.2.length:Int))) then (bif a.1 then (some (true,d,a.2)) else (bif (decide ((0:Int)<(d.length:Int))) then ((jg (fA.mk (ix a.2 p).Ring_Next (ix a.2 p).Ring_List) (a.2.length:Int) d).bind λb=>((λz0:List bV=>((dV p z0).bind λc=>(bif (decide (c.2.length=z0.length)) then (bif (decide (0<=p/\p<(c.2.length:Int))) then (some (c.1,b.2.2.2,c.2)) else none) else none))) (a.2.set p.toNat ((bV.mk (ix a.2 p).now b.1 b.2.2.1):bV)))) else (dB (j_ p d) (1,a.2)))) else none) else none)) else none)
def dM (t:Int) (a:List cq):Option (Int):=(bif ((decide ((0:Int)<=(i64.wrap (t-1))))&&(decide ((i64.wrap (t-1))<(a.length:Int)))) then (some ((i64.wrap (t-1)))) else none)
def oV (a:Int):Option (Bool):=(some (((decide ((1:Int)<=a))&&(decide (a<=7)))))
def gI (b:Int) (a:List cq):Option (Int×List cq):=(some ((i64.wrap (b+1)),a))
def mj (c:df) (d b:Int) (a:List cq):Option (Int×List cq):=(bif (decide (0<=b/\b<(a.length:Int))) then (bif (c.Op==1) then (bif ((decide ((0:Int)<=c.A))&&(decide (c.A<((8:Nat):Int)))) then (gI d (a.set b.toNat ((cq.mk (ix a b).pc ((ix a b).r.set c.A c.B) (ix a b).state (ix a b).when (ix a b).seq):cq))) else none) else (bif (c.Op==2) then (bif ((decide ((0:Int)<=c.B))&&(decide (c.B<((8:Nat):Int)))) then (bif ((decide ((0:Int)<=c.A))&&(decide (c.A<((8:Nat):Int)))) then (gI d (a.set b.toNat ((cq.mk (ix a b).pc ((ix a b).r.set c.A ((ix a b).r.get c.B)) (ix a b).state (ix a b).when (ix a b).seq):cq))) else none) else none) else (bif (c.Op==3) then (bif ((decide ((0:Int)<=c.A))&&(decide (c.A<((8:Nat):Int)))) then (bif ((decide ((0:Int)<=c.B))&&(decide (c.B<((8:Nat):Int)))) then (gI d (a.set b.toNat ((cq.mk (ix a b).pc ((ix a b).r.set c.A (i64.wrap (((ix a b).r.get c.A)+((ix a b).r.get c.B)))) (ix a b).state (ix a b).when (ix a b).seq):cq))) else none) else none) else (bif (c.Op==4) then (bif ((decide ((0:Int)<=c.A))&&(decide (c.A<((8:Nat):Int)))) then (bif ((decide ((0:Int)<=c.B))&&(decide (c.B<((8:Nat):Int)))) then (gI d (a.set b.toNat ((cq.mk (ix a b).pc ((ix a b).r.set c.A (i64.wrap (((ix a b).r.get c.A)-((ix a b).r.get c.B)))) (ix a b).state (ix a b).when (ix a b).seq):cq))) else none) else none) else (bif (c.Op==5) then (bif ((decide ((0:Int)<=c.A))&&(decide (c.A<((8:Nat):Int)))) then (bif ((decide ((0:Int)<=c.B))&&(decide (c.B<((8:Nat):Int)))) then (gI d (a.set b.toNat ((cq.mk (ix a b).pc ((ix a b).r.set c.A (mU [(true,1)] (decide (((ix a b).r.get c.A)<((ix a b).r.get c.B))))) (ix a b).state (ix a b).when (ix a b).seq):cq))) else none) else none) else (bif (c.Op==6) then (some (c.A,a)) else (bif (c.Op==7) then (bif ((decide ((0:Int)<=c.A))&&(decide (c.A<((8:Nat):Int)))) then (bif (((ix a b).r.get c.A)==0) then (some (c.B,a)) else (gI d a)) else none) else (gI d a)))))))) else none)
def du (t d b a:Int) (c:List cy):Option ((List cy)):=(bif (decide ((c++([(cy.mk t d b a)]:List cy)).length*32<=140737488355328)) then (some ((c++([(cy.mk t d b a)]:List cy)))) else none)
def i5 (c t:Int) (b:List cq) (d:List bV) (e:List Int):Option (Bool×List Int×List cq×List bV):=(bif (decide (0<=c/\c<(d.length:Int))) then ((dM t b).bind λa=>(bif (decide (0<=a/\a<(b.length:Int))) then (bif (decide ((e++([t]:List Int)).length*8<=140737488355328)) then (some (false,(e++([t]:List Int)),(b.set a.toNat ((cq.mk (i64.wrap ((ix b a).pc+1)) (ix b a).r (ix b a).state (ix b a).when (ix b a).seq):cq)),(d.set c.toNat ((bV.mk 0 (ix d c).Ring_Next (ix d c).Ring_List):bV)))) else none) else none)) else none)
def i6 (s:List Int) (v:Int):Int->Option (((Int) ⊕ (Int))):=λa=>(bif (decide (a<(s.length:Int))) then (bif ((decide ((0:Int)<=a))&&(decide (a<(s.length:Int)))) then (bif (v==(ix s a)) then (Option.map Sum.inr (some (a))) else (some (Sum.inl ((i64.wrap (a+1)))))) else none) else (Option.map Sum.inr (some ((-1)))))
def nE (s:List Int) (v:Int):Option (Int):=(dB (i6 s v) (0))
def ig (s:List Int) (v:Int):Option (Bool):=((nE s v).bind λa=>(some ((decide ((0:Int)<=a)))))
def rr (t:Int) (b:List Int):Option ((List Int)×List Int):=(bif (decide ((b.length:Int)<256)) then (bif (decide ((b++([t]:List Int)).length*8<=140737488355328)) then (some ([],(b++([t]:List Int)))) else none) else (bif (decide ((128:Int)<=(b.length:Int))) then ((fh (cut b (0:Int) (128:Int))).bind λa=>(bif (decide ((a++([t]:List Int)).length*8<=140737488355328)) then (bif (decide ((128:Int)<=(b.length:Int))) then ((fh (cut b (128:Int) (b.length:Int))).bind λc=>(some ((a++([t]:List Int)),c))) else none) else none)) else none))
def pt (c a:Int) (d:List Int):Option (Int×cE×List Int×List Int):=((rr c d).bind λb=>(some (a,(cE.mk 0 0),b.2,b.1)))
def qX (q:fA) (a:Int) (g:Bool):Option (Int×cE×List Int×List Int):=((kB q).bind λc=>(bif (c.Code != 0) then (some (0,c,[],[])) else (bif (decide (a<1)) then ((ii 3 (-1)).bind λh=>(some (0,h,[],[]))) else ((mM q).bind λe=>((ig e a).bind λd=>(bif d then ((ii 10 (-1)).bind λf=>(some (0,f,[],[]))) else ((kC q).bind λb=>(bif g then (bif (q.Next==0) then (some (a,(cE.mk 0 0),b,[])) else (pt q.Next a b)) else (pt a q.Next b)))))))))
def i8 (d t:Int) (c:List cq) (e:List bV) (f:List Int):Option ((List Int)×List cq×List bV):=(bif (decide (0<=d/\d<(e.length:Int))) then ((qX (fA.mk (ix e d).Ring_Next (ix e d).Ring_List) t true).bind λb=>(bif (decide ((f++b.2.2.2).length*8<=140737488355328)) then ((dM t c).bind λa=>(bif (decide (0<=a/\a<(c.length:Int))) then (some ((f++b.2.2.2),(c.set a.toNat ((cq.mk (ix c a).pc (ix c a).r 0 (ix c a).when (ix c a).seq):cq)),(e.set d.toNat ((bV.mk (ix e d).now b.1 b.2.2.1):bV)))) else none)) else none)) else none)
def ji (a b:Int):Option (cE):=(some ((cE.mk a b)))
def pG (l:List cI):Int×(List (Int×Int))->Option (((Int×(List (Int×Int))) ⊕ (Int×(List (Int×Int))))):=λ(a,b)=>(bif (decide (a<(l.length:Int))) then (bif ((decide ((0:Int)<=a))&&(decide (a<(l.length:Int)))) then (bif ((decide ((ix l a).Task<1))||(decide ((ix l a).Case<0))) then (Option.map Sum.inr (some (3,b))) else (bif (decide ((0:Int)<(fX b (ix l a).Task))) then (Option.map Sum.inr (some (10,b))) else (some (Sum.inl ((i64.wrap (a+1)),(iy b (ix l a).Task 1)))))) else none) else (Option.map Sum.inr (some (0,b))))
def qq (l:List cI) (a:(List (Int×Int))):Option (Int×(List (Int×Int))):=(dB (pG l) (0,a))
def nO (p:cR):Int->Option (((Int) ⊕ (cE))):=λa=>(bif (decide (a<(p.Getters.length:Int))) then (bif ((decide ((0:Int)<=a))&&(decide (a<(p.Getters.length:Int)))) then (bif ((ix p.Getters a).Value != 0) then ((ji 5 2).bind λb=>(Option.map Sum.inr (some (b)))) else (some (Sum.inl ((i64.wrap (a+1)))))) else none) else (Option.map Sum.inr (some ((cE.mk 0 0)))))
def oW (p:cR):Option (cE):=(bif (decide ((5000:Int)<(i64.wrap ((i64.wrap ((p.Items.length:Int)+(p.Senders.length:Int)))+(p.Getters.length:Int))))) then ((ji 2 0).bind λg=>(some (g))) else (bif ((decide (p.Cap<0))||(decide ((1000:Int)<p.Cap))) then ((ji 3 0).bind λd=>(some (d))) else (bif (decide (p.Cap<(p.Items.length:Int))) then ((ji 8 0).bind λc=>(some (c))) else (bif (bif (decide ((0:Int)<(p.Senders.length:Int))) then (p.Closed||((decide ((p.Items.length:Int)<p.Cap))||((decide ((0:Int)<(p.Getters.length:Int)))||((decide ((0:Int)<(p.Getters.length:Int)))&&(p.Closed||(decide ((0:Int)<(p.Items.length:Int)))))))) else ((decide ((0:Int)<(p.Getters.length:Int)))&&(p.Closed||(decide ((0:Int)<(p.Items.length:Int)))))) then ((ji 5 0).bind λf=>(some (f))) else ((qq p.Senders []).bind λa=>(bif (a.1 != 0) then ((ji a.1 1).bind λh=>(some (h))) else ((qq p.Getters a.2).bind λb=>(bif (b.1 != 0) then ((ji b.1 2).bind λe=>(some (e))) else (dB (nO p) (0))))))))))
def qr (x:cI) (a:Int):Option (Bool):=(some ((x.Task==a)))
def iC (s:List cI) (f:Int):Int->Option (((Int) ⊕ (Int))):=λa=>(bif (decide (a<(s.length:Int))) then (bif ((decide ((0:Int)<=a))&&(decide (a<(s.length:Int)))) then ((qr (ix s a) f).bind λb=>(bif b then (Option.map Sum.inr (some (a))) else (some (Sum.inl ((i64.wrap (a+1))))))) else none) else (Option.map Sum.inr (some ((-1)))))
def kU (s:List cI) (f:Int):Option (Int):=(dB (iC s f) (0))
def gN (s:List cI) (f:Int):Option (Bool):=((kU s f).bind λa=>(some ((decide ((0:Int)<=a)))))
def nP (a:Bool):Option (Bool):=(some (a))
def sA (p:cR) (a:Int):Option (Bool):=((gN p.Senders a).bind λc=>(bif c then (nP true) else ((gN p.Getters a).bind λb=>(nP b))))
def oX (p:cR) (b:Int):Option (cE):=((oW p).bind λa=>(bif (a.Code != 0) then (some (a)) else (bif (decide (b<1)) then ((ji 3 (-1)).bind λe=>(some (e))) else ((sA p b).bind λc=>(bif c then ((ji 10 (-1)).bind λf=>(some (f))) else (bif ((i64.wrap ((i64.wrap ((p.Items.length:Int)+(p.Senders.length:Int)))+(p.Getters.length:Int)))==5000) then ((ji 9 0).bind λd=>(some (d))) else (some ((cE.mk 0 0)))))))))
def jX (s:List cI):Option ((List cI)):=(bif (decide ((([]:List cI)++s).length*24<=140737488355328)) then (some ((([]:List cI)++s))) else none)
def oF (p:cR):Option ((List Int)×List cI×List cI):=((fh p.Items).bind λa=>((jX p.Senders).bind λb=>((jX p.Getters).bind λc=>(some (a,b,c)))))
def sB (x:cI) (c:Int) (a:Bool) (d:List Int) (b:List cI):Option (Bool×Bool×Int×List de×List Int×List cI):=(bif a then (some (true,true,x.Case,[],d,b)) else (bif (decide ((0:Int)<(b.length:Int))) then (bif (decide ((0:Int)<(b.length:Int))) then (bif (decide ((1:Int)<=(b.length:Int))) then (some (true,false,x.Case,([(de.mk (ix b (0:Int)).Task (ix b (0:Int)).Case x.Value true false)]:List de),d,(cut b (1:Int) (b.length:Int)))) else none) else none) else (bif (decide ((d.length:Int)<c)) then (bif (decide ((d++([x.Value]:List Int)).length*8<=140737488355328)) then (some (true,false,x.Case,[],(d++([x.Value]:List Int)),b)) else none) else (some (false,false,0,[],d,b)))))
def oG (p:cR) (c a:Bool) (b:Int) (g:List Int) (d f:List cI) (e:List de):Option (Int×Bool×Bool×Bool×Int×cE×List Int×List cI×List cI×List de):=(some (p.Cap,p.Closed,c,a,b,(cE.mk 0 0),g,d,f,e))
def mD (p:cR) (c d:Int) (f:Bool):Option (Int×Bool×Bool×Bool×Int×cE×List Int×List cI×List cI×List de):=((oX p c).bind λe=>(bif (e.Code != 0) then (some (0,false,false,false,0,e,[],[],[],[])) else ((oF p).bind λb=>((sB (cI.mk c 0 d) p.Cap p.Closed b.1 b.2.2).bind λa=>(bif ((!a.1)&&(!f)) then (bif (decide ((b.2.1++([(cI.mk c 0 d)]:List cI)).length*24<=140737488355328)) then (oG p a.1 a.2.1 a.2.2.1 a.2.2.2.2.1 (b.2.1++([(cI.mk c 0 d)]:List cI)) a.2.2.2.2.2 a.2.2.2.1) else none) else (oG p a.1 a.2.1 a.2.2.1 a.2.2.2.2.1 b.2.1 a.2.2.2.2.2 a.2.2.2.1))))))
def dH (t b:Int) (c:List cy):Option ((List cy)):=((du t 22 b 0 c).bind λa=>(some (a)))
def f8 (t:Int) (b:List cq):Option (Bool×List cq):=((dM t b).bind λa=>(bif (decide (0<=a/\a<(b.length:Int))) then (some (false,(b.set a.toNat ((cq.mk (ix b a).pc (ix b a).r 1 (ix b a).when (ix b a).seq):cq)))) else none))
def gF (t:Int) (d:df) (c:Int) (g:Bool) (f:List cy) (b:List cq):Option ((List cy)×List cq):=((dM t b).bind λa=>(bif (decide (0<=a/\a<(b.length:Int))) then (bif ((decide ((0:Int)<=d.A))&&(decide (d.A<((8:Nat):Int)))) then ((du t 15 d.B c f).bind λe=>((λz0:List cq=>(some (e,(z0.set a.toNat ((cq.mk (ix z0 a).pc ((ix z0 a).r.set (7:Int) (mU [(true,1)] g)) (ix z0 a).state (ix z0 a).when (ix z0 a).seq):cq))))) (b.set a.toNat ((cq.mk (ix b a).pc ((ix b a).r.set d.A c) (ix b a).state (ix b a).when (ix b a).seq):cq)))) else none) else none))
def fY (d t:Int) (c:List cq) (e:List bV) (f:List Int):Option ((List Int)×List cq×List bV):=(bif (decide (0<=d/\d<(e.length:Int))) then ((dM t c).bind λa=>(bif (decide (0<=a/\a<(c.length:Int))) then ((i8 d t (c.set a.toNat ((cq.mk (i64.wrap ((ix c a).pc+1)) (ix c a).r (ix c a).state (ix c a).when (ix c a).seq):cq)) e f).bind λb=>(bif (decide (0<=d/\d<(b.2.2.length:Int))) then (some (b.1,b.2.1,b.2.2)) else none)) else none)) else none)
def hZ (g:Int) (l:List de) (b:Int) (d:List bV) (e:List Int) (f:List cq) (c:List cy):Option (((Int×List cq×List bV×List cy×List Int) ⊕ (Int×List cy×List Int×List cq×List bV))):=(bif (decide (0<=g/\g<(d.length:Int))) then ((fY g (ix l b).Task f d e).bind λa=>(bif (decide (0<=g/\g<(a.2.2.length:Int))) then (some (Sum.inl ((i64.wrap (b+1)),a.2.1,a.2.2,c,a.1))) else none)) else none)
def fd (n p:Int) (l:List de) (a:List df) (e:Int):Int×List cq×List bV×List cy×(List Int)->Option (((Int×List cq×List bV×List cy×List Int) ⊕ (Int×List cy×List Int×List cq×List bV))):=λ(c,b,h,g,f)=>(bif (decide (0<=n/\n<(h.length:Int))) then (bif (decide (c<(l.length:Int))) then (bif ((decide ((0:Int)<=c))&&(decide (c<(l.length:Int)))) then ((dM (ix l c).Task b).bind λd=>(bif (decide (0<=d/\d<(b.length:Int))) then (bif ((decide ((0:Int)<=(ix b d).pc))&&(decide ((ix b d).pc<(a.length:Int)))) then (bif (ix l c).Panic then ((dH (ix l c).Task p g).bind λk=>(Option.map Sum.inr (some (2,k,f,b,h)))) else (bif ((ix a (ix b d).pc).Op==14) then ((dM (ix l c).Task b).bind λi=>(bif (decide (0<=i/\i<(b.length:Int))) then (bif ((decide ((0:Int)<=(ix a (ix b d).pc).B))&&(decide ((ix a (ix b d).pc).B<((8:Nat):Int)))) then ((du (ix l c).Task (ix a (ix b d).pc).Op p ((ix b i).r.get (ix a (ix b d).pc).B) g).bind λm=>(hZ n l c h f b m)) else none) else none)) else ((gF (ix l c).Task (ix a (ix b d).pc) (ix l c).Value (ix l c).Ok g b).bind λj=>(hZ n l c h f j.2 j.1)))) else none) else none)) else none) else (Option.map Sum.inr (some (e,g,f,b,h)))) else none)
def dG (c p:Int) (l:List de) (a:List df) (b:Int) (g:List cy) (f:List cq) (d:List bV) (e:List Int):Option (Int×List cy×List Int×List cq×List bV):=(bif (decide (0<=c/\c<(d.length:Int))) then (dB (fd c p l a b) (0,f,d,g,e)) else none)
def lh (x:cI) (b:Bool) (a:List Int) (c:List cI) (d:List de):Option (Bool×Bool×Int×Int×List de×List Int×List cI):=(bif (decide ((0:Int)<(a.length:Int))) then (bif (decide ((0:Int)<(a.length:Int))) then (bif (decide ((1:Int)<=(a.length:Int))) then (some (true,true,(ix a (0:Int)),x.Case,d,(cut a (1:Int) (a.length:Int)),c)) else none) else none) else (bif b then (some (true,false,0,x.Case,[],a,c)) else (some (false,false,0,0,[],a,c))))
def sC (x:cI) (a:Bool) (c:List Int) (b:List cI):Option (Bool×Bool×Int×Int×List de×List Int×List cI):=(bif (decide ((0:Int)<(b.length:Int))) then (bif (decide ((0:Int)<(b.length:Int))) then (bif (decide ((1:Int)<=(b.length:Int))) then (bif (decide ((c++([(ix b (0:Int)).Value]:List Int)).length*8<=140737488355328)) then (lh x a (c++([(ix b (0:Int)).Value]:List Int)) (cut b (1:Int) (b.length:Int)) ([(de.mk (ix b (0:Int)).Task (ix b (0:Int)).Case 0 false false)]:List de)) else none) else none) else none) else (lh x a c b []))
def pu (p:cR) (c d:Bool) (a b:Int) (h:List Int) (e g:List cI) (f:List de):Option (Int×Bool×Bool×Bool×Int×Int×cE×List Int×List cI×List cI×List de):=(some (p.Cap,p.Closed,c,d,a,b,(cE.mk 0 0),h,e,g,f))
def lU (p:cR) (c:Int) (e:Bool):Option (Int×Bool×Bool×Bool×Int×Int×cE×List Int×List cI×List cI×List de):=((oX p c).bind λd=>(bif (d.Code != 0) then (some (0,false,false,false,0,0,d,[],[],[],[])) else ((oF p).bind λb=>((sC (cI.mk c 0 0) p.Closed b.1 b.2.1).bind λa=>(bif ((!a.1)&&(!e)) then (bif (decide ((b.2.2++([(cI.mk c 0 0)]:List cI)).length*24<=140737488355328)) then (pu p a.1 a.2.1 a.2.2.1 a.2.2.2.1 a.2.2.2.2.2.1 a.2.2.2.2.2.2 (b.2.2++([(cI.mk c 0 0)]:List cI)) a.2.2.2.2.1) else none) else (pu p a.1 a.2.1 a.2.2.1 a.2.2.2.1 a.2.2.2.2.2.1 a.2.2.2.2.2.2 b.2.2 a.2.2.2.2.1))))))
def m6 (c:List cI):Int×(List de)->Option (((Int×List de) ⊕ (Bool×List de×Bool×List cI×List cI))):=λ(a,b)=>(bif (decide (a<(c.length:Int))) then (bif ((decide ((0:Int)<=a))&&(decide (a<(c.length:Int)))) then (bif (decide ((b++([(de.mk (ix c a).Task (ix c a).Case 0 false true)]:List de)).length*32<=140737488355328)) then (some (Sum.inl ((i64.wrap (a+1)),(b++([(de.mk (ix c a).Task (ix c a).Case 0 false true)]:List de))))) else none) else none) else (Option.map Sum.inr (some (false,b,true,[],[]))))
def m7 (d c:List cI):Int×(List de)->Option (((Int×List de) ⊕ (Bool×List de×Bool×List cI×List cI))):=λ(a,b)=>(bif (decide (a<(c.length:Int))) then (bif ((decide ((0:Int)<=a))&&(decide (a<(c.length:Int)))) then (bif (decide ((b++([(de.mk (ix c a).Task (ix c a).Case 0 false false)]:List de)).length*32<=140737488355328)) then (some (Sum.inl ((i64.wrap (a+1)),(b++([(de.mk (ix c a).Task (ix c a).Case 0 false false)]:List de))))) else none) else none) else (Option.map Sum.inr (dB (m6 d) (0,b))))
def ru (a:Bool) (b c:List cI):Option (Bool×List de×Bool×List cI×List cI):=(bif a then (some (true,[],a,b,c)) else (dB (m7 b c) (0,[])))
def oH (p:cR):Option (Int×Bool×Bool×Bool×cE×List Int×List cI×List cI×List de):=((oW p).bind λc=>(bif (c.Code != 0) then (some (0,false,false,false,c,[],[],[],[])) else ((oF p).bind λb=>((ru p.Closed b.2.1 b.2.2).bind λa=>(some (p.Cap,a.2.2.1,true,a.1,(cE.mk 0 0),b.1,a.2.2.2.1,a.2.2.2.2,a.2.1))))))
def d7 (a:Int) (c:List cy) (b:List Int) (d:List cq) (f:List bV) (e:List cR):Option (Bool×Int×List cy×List Int×List cq×List bV×List cR):=(some (true,a,c,b,d,f,e))
def fe (k t:Int) (j:df) (b:List df) (m:List cR) (a:Int) (l:List cq) (g:List bV) (h:List cR) (e:lk) (i:List cy) (f:List Int):Option (Bool×Int×List cy×List Int×List cq×List bV×List cR):=(bif (decide (0<=k/\k<(g.length:Int))) then ((gF t j e.Value e.Ok i l).bind λd=>(bif (decide ((0:Int)<(((ix m j.B).Items.length:Nat):Int))) then ((dG k j.B e.Wakes b a d.1 d.2 g f).bind λc=>(bif (decide (0<=k/\k<(c.2.2.2.2.length:Int))) then (d7 c.1 c.2.1 c.2.2.1 c.2.2.2.1 c.2.2.2.2 h) else none)) else (d7 a d.1 f d.2 g h))) else none)
def eF (m t:Int) (c:df) (d:List df) (a:Int) (s:List cy) (n:List cq) (p:List bV) (q:List Int) (k:List cR):Option (Bool×Int×List cy×List Int×List cq×List bV×List cR):=(bif (decide (0<=m/\m<(p.length:Int))) then ((dM t n).bind λj=>(bif (decide (0<=j/\j<(n.length:Int))) then (bif (c.Op==14) then (bif ((decide ((0:Int)<=c.A))&&(decide (c.A<(k.length:Int)))) then (bif ((decide ((0:Int)<=c.B))&&(decide (c.B<((8:Nat):Int)))) then ((mD (ix k c.A) t ((ix n j).r.get c.B) false).bind λe=>(bif ((decide ((0:Int)<=c.A))&&(decide (c.A<(k.length:Int)))) then ((λz1:List cR=>(bif e.2.2.2.1 then ((dH t c.A s).bind λv=>(some (false,2,v,q,n,p,z1))) else (bif (!e.2.2.1) then ((f8 t n).bind λl=>(bif (decide (0<=j/\j<(l.2.length:Int))) then (some (l.1,a,s,q,l.2,p,z1)) else none)) else ((du t c.Op c.A ((ix n j).r.get c.B) s).bind λw=>((dG m c.A e.2.2.2.2.2.2.2.2.2 d a w n p q).bind λi=>(bif (decide (0<=m/\m<(i.2.2.2.2.length:Int))) then (d7 i.1 i.2.1 i.2.2.1 i.2.2.2.1 i.2.2.2.2 z1) else none)))))) (k.set c.A.toNat ((cR.mk e.1 e.2.2.2.2.2.2.1 e.2.1 e.2.2.2.2.2.2.2.1 e.2.2.2.2.2.2.2.2.1):cR))) else none)) else none) else none) else (bif (c.Op==15) then (bif ((decide ((0:Int)<=c.B))&&(decide (c.B<(k.length:Int)))) then (bif ((decide ((0:Int)<=c.B))&&(decide (c.B<(k.length:Int)))) then ((lU (ix k c.B) t false).bind λb=>(bif ((decide ((0:Int)<=c.B))&&(decide (c.B<(k.length:Int)))) then ((λz0:List cR=>(bif (!b.2.2.1) then ((f8 t n).bind λo=>(some (o.1,a,s,q,o.2,p,z0))) else (bif (!(decide ((0:Int)<(((ix k c.B).Items.length:Nat):Int)))) then ((dG m c.B b.2.2.2.2.2.2.2.2.2.2 d a s n p q).bind λg=>(bif (decide (0<=m/\m<(g.2.2.2.2.length:Int))) then (fe m t c d k g.1 g.2.2.2.1 g.2.2.2.2 z0 (lk.mk b.2.2.1 false b.2.2.2.1 b.2.2.2.2.1 b.2.2.2.2.2.1 b.2.2.2.2.2.2.2.2.2.2) g.2.1 g.2.2.1) else none)) else (fe m t c d k a n p z0 (lk.mk b.2.2.1 false b.2.2.2.1 b.2.2.2.2.1 b.2.2.2.2.2.1 b.2.2.2.2.2.2.2.2.2.2) s q)))) (k.set c.B.toNat ((cR.mk b.1 b.2.2.2.2.2.2.2.1 b.2.1 b.2.2.2.2.2.2.2.2.1 b.2.2.2.2.2.2.2.2.2.1):cR))) else none)) else none) else none) else (bif (c.Op==16) then (bif ((decide ((0:Int)<=c.A))&&(decide (c.A<(k.length:Int)))) then ((oH (ix k c.A)).bind λf=>(bif ((decide ((0:Int)<=c.A))&&(decide (c.A<(k.length:Int)))) then ((λz2:List cR=>(bif f.2.2.2.1 then ((dH t c.A s).bind λx=>(some (false,2,x,q,n,p,z2))) else ((du t c.Op c.A 0 s).bind λu=>((dG m c.A f.2.2.2.2.2.2.2.2 d a u n p q).bind λh=>(bif (decide (0<=m/\m<(h.2.2.2.2.length:Int))) then (d7 h.1 h.2.1 h.2.2.1 h.2.2.2.1 h.2.2.2.2 z2) else none))))) (k.set c.A.toNat ((cR.mk f.1 f.2.2.2.2.2.1 f.2.1 f.2.2.2.2.2.2.1 f.2.2.2.2.2.2.2.1):cR))) else none)) else none) else (d7 a s q n p k)))) else none)) else none)
def jQ (a b:Int):Option (cE):=(some ((cE.mk a b)))
def nQ (l:dj):Int×(List (Int×Int))->Option (((Int×(List (Int×Int))) ⊕ (cE))):=λ(a,b)=>(bif (decide (a<(l.Line.length:Int))) then (bif ((decide ((0:Int)<=a))&&(decide (a<(l.Line.length:Int)))) then (bif (decide ((ix l.Line a).Task<1)) then ((jQ 3 (i64.wrap (a+1))).bind λd=>(Option.map Sum.inr (some (d)))) else (bif (decide ((0:Int)<(fX b (ix l.Line a).Task))) then ((jQ 10 (i64.wrap (a+1))).bind λc=>(Option.map Sum.inr (some (c)))) else (bif ((ix l.Line a).N != 0) then ((jQ 5 (i64.wrap (a+1))).bind λe=>(Option.map Sum.inr (some (e)))) else (some (Sum.inl ((i64.wrap (a+1)),(iy b (ix l.Line a).Task 1))))))) else none) else (Option.map Sum.inr (some ((cE.mk 0 0)))))
def oY (l:dj):Option (cE):=(bif (decide ((5000:Int)<(l.Line.length:Int))) then ((jQ 2 0).bind λa=>(some (a))) else (bif ((decide (l.Readers<0))||(decide ((1000000000:Int)<l.Readers))) then ((jQ 3 0).bind λc=>(some (c))) else (bif ((!((((l.Writer&&(!(decide ((0:Int)<l.Readers))))&&(decide ((0:Int)<(l.Line.length:Int))))&&(!l.Writer))&&(!(l.Readers==0))))||(decide ((0:Int)<(l.Line.length:Int)))) then (bif ((!((((!l.Writer)&&(decide ((0:Int)<(l.Line.length:Int))))&&(!l.Writer))&&(!(l.Readers==0))))||(decide ((0:Int)<(l.Line.length:Int)))) then (bif (bif l.Writer then ((decide ((0:Int)<l.Readers))||((decide ((0:Int)<(l.Line.length:Int)))&&((!l.Writer)&&((l.Readers==0)||(!(ix l.Line (0:Int)).Write))))) else ((decide ((0:Int)<(l.Line.length:Int)))&&((!l.Writer)&&((l.Readers==0)||(!(ix l.Line (0:Int)).Write))))) then ((jQ 5 0).bind λb=>(some (b))) else (dB (nQ l) (0,[]))) else none) else none)))
def qs (w:dR) (a:Int):Option (Bool):=(some ((w.Task==a)))
def iD (s:List dR) (f:Int):Int->Option (((Int) ⊕ (Int))):=λa=>(bif (decide (a<(s.length:Int))) then (bif ((decide ((0:Int)<=a))&&(decide (a<(s.length:Int)))) then ((qs (ix s a) f).bind λb=>(bif b then (Option.map Sum.inr (some (a))) else (some (Sum.inl ((i64.wrap (a+1))))))) else none) else (Option.map Sum.inr (some ((-1)))))
def kW (s:List dR) (f:Int):Option (Int):=(dB (iD s f) (0))
def iE (s:List dR) (f:Int):Option (Bool):=((kW s f).bind λa=>(some ((decide ((0:Int)<=a)))))
def mV (s:List dR):Option ((List dR)):=(bif (decide ((([]:List dR)++s).length*24<=140737488355328)) then (some ((([]:List dR)++s))) else none)
def lE (l:dj):Option ((List dR)):=((mV l.Line).bind λa=>(some (a)))
def oc (d:List Int) (a:Int) (b:Bool) (c:List dR):Option ((List Int)×Int×Bool×List dR):=(some (d,a,b,c))
def jR:Int×Bool×List Int×(List dR)->Option (((Int×Bool×List Int×List dR) ⊕ ((List Int)×Int×Bool×List dR))):=λ(b,c,d,a)=>(bif ((decide ((0:Int)<(a.length:Int)))&&(!c)) then (bif (decide ((0:Int)<(a.length:Int))) then (bif ((ix a (0:Int)).Write&&(decide ((0:Int)<b))) then (Option.map Sum.inr (oc d b c a)) else (bif (decide ((1:Int)<=(a.length:Int))) then (bif (decide ((d++([(ix a (0:Int)).Task]:List Int)).length*8<=140737488355328)) then (bif (!(ix a (0:Int)).Write) then (some (Sum.inl ((i64.wrap (b+1)),(ix a (0:Int)).Write,(d++([(ix a (0:Int)).Task]:List Int)),(cut a (1:Int) (a.length:Int))))) else (some (Sum.inl (b,(ix a (0:Int)).Write,(d++([(ix a (0:Int)).Task]:List Int)),(cut a (1:Int) (a.length:Int)))))) else none) else none)) else none) else (Option.map Sum.inr (oc d b c a)))
def kN (a:Int) (b:Bool) (c:List dR):Option ((List Int)×Int×Bool×List dR):=(dB jR (a,b,[],c))
def mF (l:dj) (b:Int) (d m:Bool):Option (Int×Bool×Bool×cE×List dR):=((oY l).bind λe=>(bif (e.Code != 0) then (some (0,false,false,e,[])) else (bif (decide (b<1)) then ((jQ 3 (-1)).bind λh=>(some (0,false,false,h,[]))) else ((iE l.Line b).bind λj=>(bif j then ((jQ 10 (-1)).bind λf=>(some (0,false,false,f,[]))) else (bif (((l.Line.length:Int)==5000)||(l.Readers==1000000000)) then ((jQ 9 0).bind λk=>(some (0,false,false,k,[]))) else ((lE l).bind λc=>(bif (decide ((c++([(dR.mk b d 0)]:List dR)).length*24<=140737488355328)) then ((kN l.Readers l.Writer (c++([(dR.mk b d 0)]:List dR))).bind λa=>((ig a.1 b).bind λi=>(bif i then (some (a.2.1,a.2.2.1,true,(cE.mk 0 0),a.2.2.2)) else (bif m then ((lE l).bind λg=>(some (l.Readers,l.Writer,false,(cE.mk 0 0),g))) else (some (a.2.1,a.2.2.1,false,(cE.mk 0 0),a.2.2.2)))))) else none))))))))
def nR (b:Int) (c:Bool) (d:List dR):Option (Int×Bool×Bool×cE×List dR×List Int):=((kN b c d).bind λa=>(some (a.2.1,a.2.2.1,false,(cE.mk 0 0),a.2.2.2,a.1)))
def nG (l:dj) (a:Bool):Option (Int×Bool×Bool×cE×List dR×List Int):=((oY l).bind λb=>(bif (b.Code != 0) then (some (0,false,false,b,[],[])) else (bif (bif a then ((!l.Writer)||((!a)&&(l.Readers==0))) else ((!a)&&(l.Readers==0))) then ((lE l).bind λd=>(some (l.Readers,l.Writer,true,(cE.mk 0 0),d,[]))) else ((lE l).bind λc=>(bif a then (nR l.Readers false c) else (nR (i64.wrap (l.Readers-1)) l.Writer c))))))
def jj (a b:Int):Option (cE):=(some ((cE.mk a b)))
def qt (l:List Int):Int×(List (Int×Int))->Option (((Int×(List (Int×Int))) ⊕ (cE))):=λ(a,b)=>(bif (decide (a<(l.length:Int))) then (bif ((decide ((0:Int)<=a))&&(decide (a<(l.length:Int)))) then (bif (decide ((ix l a)<1)) then ((jj 3 (i64.wrap (a+1))).bind λd=>(Option.map Sum.inr (some (d)))) else (bif (decide ((0:Int)<(fX b (ix l a)))) then ((jj 10 (i64.wrap (a+1))).bind λc=>(Option.map Sum.inr (some (c)))) else (some (Sum.inl ((i64.wrap (a+1)),(iy b (ix l a) 1)))))) else none) else (Option.map Sum.inr (some ((cE.mk 0 0)))))
def rQ (l:List Int):Option (cE):=(bif (decide ((5000:Int)<(l.length:Int))) then ((jj 2 0).bind λa=>(some (a))) else (dB (qt l) (0,[])))
def oZ (g:cY):Option (cE):=((rQ g.Line).bind λa=>(bif (a.Code != 0) then (some (a)) else (bif ((decide (g.Count<0))||(decide ((1000000000:Int)<g.Count))) then ((jj 3 0).bind λc=>(some (c))) else (bif ((g.Count==0)&&(decide ((0:Int)<(g.Line.length:Int)))) then ((jj 5 0).bind λb=>(some (b))) else (some ((cE.mk 0 0)))))))
def nH (g:cY) (n:Int):Option (Int×Bool×cE×List Int×List Int):=((oZ g).bind λb=>(bif (b.Code != 0) then (some (0,false,b,[],[])) else (bif ((decide (n<(-1000000000)))||(decide ((1000000000:Int)<n))) then ((jj 3 (-1)).bind λc=>(some (0,false,c,[],[]))) else ((fh g.Line).bind λa=>(bif (decide ((i64.wrap (g.Count+n))<0)) then (some (g.Count,true,(cE.mk 0 0),a,[])) else (bif (decide ((1000000000:Int)<(i64.wrap (g.Count+n)))) then ((jj 9 0).bind λd=>(some (0,false,d,[],[]))) else (bif ((i64.wrap (g.Count+n))==0) then (some (0,false,(cE.mk 0 0),[],a)) else (some ((i64.wrap (g.Count+n)),false,(cE.mk 0 0),a,[])))))))))
def qu (l:List Int) (a:Int):Option (cE):=(bif (decide (a<1)) then ((jj 3 (-1)).bind λe=>(some (e))) else ((ig l a).bind λd=>(bif d then ((jj 10 (-1)).bind λb=>(some (b))) else (bif ((l.length:Int)==5000) then ((jj 9 0).bind λc=>(some (c))) else (some ((cE.mk 0 0)))))))
def ml (g:cY) (a:List Int):Option (Int×Bool×cE×List Int):=(some (g.Count,(g.Count==0),(cE.mk 0 0),a))
def nS (g:cY) (b:Int) (c:cE):Option (Int×Bool×cE×List Int):=(bif (c.Code != 0) then (some (0,false,c,[])) else ((fh g.Line).bind λa=>(bif (decide ((0:Int)<g.Count)) then (bif (decide ((a++([b]:List Int)).length*8<=140737488355328)) then (ml g (a++([b]:List Int))) else none) else (ml g a))))
def nI (g:cY) (a:Int):Option (Int×Bool×cE×List Int):=((oZ g).bind λb=>(bif (b.Code==0) then ((qu g.Line a).bind λc=>(nS g a c)) else (nS g a b)))
def fu (a:Int) (g:List cy) (d:List Int) (e:List cq) (f:List bV) (c:List dj) (b:List cY):Option (Bool×Int×List cy×List Int×List cq×List bV×List dj×List cY):=(some (true,a,g,d,e,f,c,b))
def h_ (n:Int) (p:df) (a:List df) (e:Int) (o:List cY):Int×Int×List cq×List bV×List dj×List Int×List cy×(List Int)->Option (((Int×Int×List cq×List bV×List dj×List Int×List cy×List Int) ⊕ (Bool×Int×List cy×List Int×List cq×List bV×List dj×List cY))):=λ(h,b,c,i,l,d,k,j)=>(bif (decide (0<=n/\n<(i.length:Int))) then (bif (decide (b<h)) then (bif ((decide ((0:Int)<=b))&&(decide (b<(d.length:Int)))) then ((dM (ix d b) c).bind λf=>(bif (decide (0<=f/\f<(c.length:Int))) then (bif ((decide ((0:Int)<=(ix c f).pc))&&(decide ((ix c f).pc<(a.length:Int)))) then ((du (ix d b) 17 p.A (ix a (ix c f).pc).B k).bind λm=>((fY n (ix d b) c i j).bind λg=>(bif (decide (0<=n/\n<(g.2.2.length:Int))) then (some (Sum.inl (h,(i64.wrap (b+1)),g.2.1,g.2.2,l,d,m,g.1))) else none))) else none) else none)) else none) else (Option.map Sum.inr (fu e k j c i l o))) else none)
def ia (l:Int) (n:df) (b:Int) (m:List dj):Int×Int×List cq×List bV×List cY×List Int×List cy×(List Int)->Option (((Int×Int×List cq×List bV×List cY×List Int×List cy×List Int) ⊕ (Bool×Int×List cy×List Int×List cq×List bV×List dj×List cY))):=λ(e,a,j,f,h,c,i,g)=>(bif (decide (0<=l/\l<(f.length:Int))) then (bif (decide (a<e)) then (bif ((decide ((0:Int)<=a))&&(decide (a<(c.length:Int)))) then ((du (ix c a) 20 n.A 0 i).bind λk=>((fY l (ix c a) j f g).bind λd=>(bif (decide (0<=l/\l<(d.2.2.length:Int))) then (some (Sum.inl (e,(i64.wrap (a+1)),d.2.1,d.2.2,h,c,k,d.1))) else none))) else none) else (Option.map Sum.inr (fu b i g j f m h))) else none)
def e_ (y t:Int) (b:df) (g:List df) (a:Int) (p:List cy) (k:List cq) (n:List bV) (o:List Int) (e:List dj) (d:List cY):Option (Bool×Int×List cy×List Int×List cq×List bV×List dj×List cY):=(bif (decide (0<=y/\y<(n.length:Int))) then ((dM t k).bind λj=>(bif (decide (0<=j/\j<(k.length:Int))) then (bif (b.Op==17) then (bif ((decide ((0:Int)<=b.A))&&(decide (b.A<(e.length:Int)))) then ((mF (ix e b.A) t (b.B==1) false).bind λf=>(bif ((decide ((0:Int)<=b.A))&&(decide (b.A<(e.length:Int)))) then ((λz1:List dj=>(bif (!f.2.2.1) then ((f8 t k).bind λm=>(some (m.1,a,p,o,m.2,n,z1,d))) else ((du t b.Op b.A b.B p).bind λs=>(fu a s o k n z1 d)))) (e.set b.A.toNat ((dj.mk f.1 f.2.1 f.2.2.2.2):dj))) else none)) else none) else (bif (b.Op==18) then (bif ((decide ((0:Int)<=b.A))&&(decide (b.A<(e.length:Int)))) then ((nG (ix e b.A) (b.B==1)).bind λc=>(bif ((decide ((0:Int)<=b.A))&&(decide (b.A<(e.length:Int)))) then ((λz0:List dj=>(bif c.2.2.1 then ((dH t b.A p).bind λq=>(some (false,2,q,o,k,n,z0,d))) else ((du t b.Op b.A b.B p).bind λv=>(dB (h_ y b g a d) ((c.2.2.2.2.2.length:Int),0,k,n,z0,c.2.2.2.2.2,v,o))))) (e.set b.A.toNat ((dj.mk c.1 c.2.1 c.2.2.2.2.1):dj))) else none)) else none) else (bif (b.Op==19) then (bif ((decide ((0:Int)<=b.A))&&(decide (b.A<(d.length:Int)))) then (bif ((decide ((0:Int)<=b.B))&&(decide (b.B<((8:Nat):Int)))) then ((nH (ix d b.A) ((ix k j).r.get b.B)).bind λh=>(bif (h.2.1||(h.2.2.1.Code != 0)) then ((dH t b.A p).bind λu=>(some (false,2,u,o,k,n,e,d))) else (bif ((decide ((0:Int)<=b.A))&&(decide (b.A<(d.length:Int)))) then ((du t b.Op b.A ((ix k j).r.get b.B) p).bind λx=>(dB (ia y b a e) ((h.2.2.2.2.length:Int),0,k,n,(d.set b.A.toNat ((cY.mk h.1 h.2.2.2.1):cY)),h.2.2.2.2,x,o))) else none))) else none) else none) else (bif (b.Op==20) then (bif ((decide ((0:Int)<=b.A))&&(decide (b.A<(d.length:Int)))) then ((nI (ix d b.A) t).bind λi=>(bif ((decide ((0:Int)<=b.A))&&(decide (b.A<(d.length:Int)))) then (bif (!i.2.1) then ((f8 t k).bind λl=>(some (l.1,a,p,o,l.2,n,e,(d.set b.A.toNat ((cY.mk i.1 i.2.2.2):cY))))) else ((du t b.Op b.A 0 p).bind λw=>(fu a w o k n e (d.set b.A.toNat ((cY.mk i.1 i.2.2.2):cY))))) else none)) else none) else (fu a p o k n e d))))) else none)) else none)
def eV (a b:Int) (j:List cR) (h:List dj) (i:List cY) (d:List cy) (c:List cq) (e g:List Int) (f:List bV):Option (Bool×Int×Int×List cy×List cq×List Int×List Int×List bV×List cR×List dj×List cY):=(some (true,a,b,d,c,e,g,f,j,h,i))
def jr (b:Int) (h:List Int) (j:List bV) (g:List Int) (i:List cR) (e:List dj) (f:List cY) (a:Int) (c:List cy) (d:List cq):Option (Bool×Int×Int×List cy×List cq×List Int×List Int×List bV×List cR×List dj×List cY):=(some (false,a,b,c,d,g,h,j,i,e,f))
def eD (m t:Int) (i:df) (g:List df) (d c e:Int) (q:List cy) (u:List Int) (b:List cq) (n:List bV) (s:List Int) (v:List cR) (k:List dj) (j:List cY) (a:Int) (l:Bool):Option (Bool×Int×Int×List cy×List cq×List Int×List Int×List bV×List cR×List dj×List cY):=(bif (decide (0<=m/\m<(n.length:Int))) then (bif (decide (0<=a/\a<(b.length:Int))) then (bif l then ((e_ m t i g d q b n s k j).bind λf=>(bif (decide (0<=m/\m<(f.2.2.2.2.2.1.length:Int))) then (bif (decide (0<=a/\a<(f.2.2.2.2.1.length:Int))) then (some (f.1,f.2.1,e,f.2.2.1,f.2.2.2.2.1,f.2.2.2.1,u,f.2.2.2.2.2.1,v,f.2.2.2.2.2.2.1,f.2.2.2.2.2.2.2)) else none) else none)) else (bif (i.Op==21) then (bif ((decide ((0:Int)<=i.A))&&(decide (i.A<((8:Nat):Int)))) then (bif (decide ((1000000000:Int)<((ix b a).r.get i.A))) then ((dH t 0 q).bind λo=>(some (false,2,e,o,b,s,u,n,v,k,j))) else (bif (decide (((ix b a).r.get i.A)<1)) then ((i5 m t b n s).bind λh=>(bif (decide (0<=m/\m<(h.2.2.2.length:Int))) then (bif (decide (0<=a/\a<(h.2.2.1.length:Int))) then (some (h.1,d,e,q,h.2.2.1,h.2.1,u,h.2.2.2,v,k,j)) else none) else none)) else ((λz0:List cq=>((λz1:List cq=>((λz2:List cq=>(some (false,d,(i64.wrap (e+1)),q,(z2.set a.toNat ((cq.mk (ix z2 a).pc (ix z2 a).r (ix z2 a).state (ix z2 a).when (i64.wrap (e+1))):cq)),s,u,n,v,k,j))) (z1.set a.toNat ((cq.mk (ix z1 a).pc (ix z1 a).r (ix z1 a).state (i64.wrap (c+((ix b a).r.get i.A))) (ix z1 a).seq):cq)))) (z0.set a.toNat ((cq.mk (ix z0 a).pc (ix z0 a).r 2 (ix z0 a).when (ix z0 a).seq):cq)))) (b.set a.toNat ((cq.mk (i64.wrap ((ix b a).pc+1)) (ix b a).r (ix b a).state (ix b a).when (ix b a).seq):cq))))) else none) else (bif (i.Op==22) then ((dH t 0 q).bind λp=>(some (false,2,e,p,b,s,u,n,v,k,j))) else (eV d e v k j q b s u n)))) else none) else none)
def fD (j t:Int) (f:df) (a:List df) (b c d:Int) (q:List cy) (o:List Int) (m:List cq) (l:List bV) (n:List Int) (p:List cR) (h:List dj) (i:List cY) (g:Int) (k:Bool):Option (Bool×Int×Int×List cy×List cq×List Int×List Int×List bV×List cR×List dj×List cY):=(bif (decide (0<=j/\j<(l.length:Int))) then (bif (decide (0<=g/\g<(m.length:Int))) then (bif k then ((eF j t f a b q m l n p).bind λe=>(bif (decide (0<=j/\j<(e.2.2.2.2.2.1.length:Int))) then (bif (decide (0<=g/\g<(e.2.2.2.2.1.length:Int))) then (some (e.1,e.2.1,d,e.2.2.1,e.2.2.2.2.1,e.2.2.2.1,o,e.2.2.2.2.2.1,e.2.2.2.2.2.2,h,i)) else none) else none)) else (bif (f.Op==17) then (eD j t f a b c d q o m l n p h i g (f.Op==17)) else (bif (f.Op==18) then (eD j t f a b c d q o m l n p h i g (f.Op==18)) else (bif (f.Op==19) then (eD j t f a b c d q o m l n p h i g (f.Op==19)) else (eD j t f a b c d q o m l n p h i g (f.Op==20)))))) else none) else none)
def dD (n t:Int) (c:df) (e:List df) (b f d:Int) (s:List cy) (l:List Int) (g:List cq) (m:List bV) (p:List Int) (q:List cR) (j:List dj) (i:List cY):Option (Bool×Int×Int×List cy×List cq×List Int×List Int×List bV×List cR×List dj×List cY):=(bif (decide (0<=n/\n<(m.length:Int))) then ((dM t g).bind λa=>(bif (decide (0<=a/\a<(g.length:Int))) then (bif (c.Op==8) then (bif ((decide ((0:Int)<=c.A))&&(decide (c.A<((8:Nat):Int)))) then ((du t c.Op 0 ((ix g a).r.get c.A) s).bind λw=>(eV b d q j i w g p l m)) else none) else (bif (c.Op==9) then ((du t c.Op 0 0 s).bind λo=>((λz1:List cq=>(bif (t==1) then (jr d l m p q j i 1 o z1) else (jr d l m p q j i b o z1))) (g.set a.toNat ((cq.mk (ix g a).pc (ix g a).r 3 (ix g a).when (ix g a).seq):cq)))) else (bif (c.Op==10) then ((i5 n t g m p).bind λh=>(bif (decide (0<=n/\n<(h.2.2.2.length:Int))) then (bif (decide (0<=a/\a<(h.2.2.1.length:Int))) then (some (h.1,b,d,s,h.2.2.1,h.2.1,l,h.2.2.2,q,j,i)) else none) else none)) else (bif (c.Op==11) then (bif ((g.length:Int)==64) then (some (false,4,d,s,g,p,l,m,q,j,i)) else (bif ((decide ((0:Int)<=c.B))&&(decide (c.B<((8:Nat):Int)))) then (bif (decide ((g++[((cq.mk c.A ((default:(dn 8)).set (0:Int) ((ix g a).r.get c.B)) 0 0 0):cq)]).length*8<=140737488355328)) then ((du t c.Op 0 (((g++[((cq.mk c.A ((default:(dn 8)).set (0:Int) ((ix g a).r.get c.B)) 0 0 0):cq)]).length:Nat):Int) s).bind λv=>((i8 n (((g++[((cq.mk c.A ((default:(dn 8)).set (0:Int) ((ix g a).r.get c.B)) 0 0 0):cq)]).length:Nat):Int) (g++[((cq.mk c.A ((default:(dn 8)).set (0:Int) ((ix g a).r.get c.B)) 0 0 0):cq)]) m p).bind λk=>(bif (decide (0<=n/\n<(k.2.2.length:Int))) then (eV b d q j i v k.2.1 k.1 l k.2.2) else none))) else none) else none)) else (bif (c.Op==12) then (bif ((decide ((0:Int)<=c.B))&&(decide (c.B<(l.length:Int)))) then (bif ((decide ((0:Int)<=c.A))&&(decide (c.A<((8:Nat):Int)))) then ((λz0:List cq=>((du t c.Op c.B ((ix z0 a).r.get c.A) s).bind λx=>(eV b d q j i x z0 p l m))) (g.set a.toNat ((cq.mk (ix g a).pc ((ix g a).r.set c.A (ix l c.B)) (ix g a).state (ix g a).when (ix g a).seq):cq))) else none) else none) else (bif (c.Op==13) then (bif ((decide ((0:Int)<=c.B))&&(decide (c.B<((8:Nat):Int)))) then (bif ((decide ((0:Int)<=c.A))&&(decide (c.A<(l.length:Int)))) then ((du t c.Op c.A ((ix g a).r.get c.B) s).bind λu=>(eV b d q j i u g p (l.set c.A.toNat ((ix g a).r.get c.B)) m)) else none) else none) else (bif (c.Op==14) then (fD n t c e b f d s l g m p q j i a (c.Op==14)) else (bif (c.Op==15) then (fD n t c e b f d s l g m p q j i a (c.Op==15)) else (fD n t c e b f d s l g m p q j i a (c.Op==16)))))))))) else none)) else none)
def eu (p:Int) (e:List df) (s:List cy) (b f g:Int) (o:List Int) (m:List cq) (q:List cR) (l:List dj) (n:List cY) (h:List bV) (j:List Int) (c:Int) (i:df):Option (Int×Int×List cy×List cq×List Int×List Int×List bV×List cR×List dj×List cY):=(bif (decide (0<=p/\p<(h.length:Int))) then (bif (decide (0<=c/\c<(m.length:Int))) then ((oV i.Op).bind λk=>(bif k then ((mj i (ix m c).pc c m).bind λd=>(bif (decide (d.2.length=m.length)) then (bif (decide (0<=c/\c<(d.2.length:Int))) then (some (b,g,s,(d.2.set c.toNat ((cq.mk d.1 (ix d.2 c).r (ix d.2 c).state (ix d.2 c).when (ix d.2 c).seq):cq)),j,o,h,q,l,n)) else none) else none)) else ((dD p (ix h p).now i e b f g s o m h j q l n).bind λa=>(bif (decide (0<=p/\p<(a.2.2.2.2.2.2.2.1.length:Int))) then (bif (decide (0<=c/\c<(a.2.2.2.2.1.length:Int))) then (bif a.1 then (some (a.2.1,a.2.2.1,a.2.2.2.1,(a.2.2.2.2.1.set c.toNat ((cq.mk (i64.wrap ((ix a.2.2.2.2.1 c).pc+1)) (ix a.2.2.2.2.1 c).r (ix a.2.2.2.2.1 c).state (ix a.2.2.2.2.1 c).when (ix a.2.2.2.2.1 c).seq):cq)),a.2.2.2.2.2.1,a.2.2.2.2.2.2.1,a.2.2.2.2.2.2.2.1,a.2.2.2.2.2.2.2.2.1,a.2.2.2.2.2.2.2.2.2.1,a.2.2.2.2.2.2.2.2.2.2)) else (bif (((ix a.2.2.2.2.2.2.2.1 p).now==(ix h p).now)&&((ix a.2.2.2.2.1 c).state != 0)) then (some (a.2.1,a.2.2.1,a.2.2.2.1,a.2.2.2.2.1,a.2.2.2.2.2.1,a.2.2.2.2.2.2.1,(a.2.2.2.2.2.2.2.1.set p.toNat ((bV.mk 0 (ix a.2.2.2.2.2.2.2.1 p).Ring_Next (ix a.2.2.2.2.2.2.2.1 p).Ring_List):bV)),a.2.2.2.2.2.2.2.2.1,a.2.2.2.2.2.2.2.2.2.1,a.2.2.2.2.2.2.2.2.2.2)) else (some (a.2.1,a.2.2.1,a.2.2.2.1,a.2.2.2.2.1,a.2.2.2.2.2.1,a.2.2.2.2.2.2.1,a.2.2.2.2.2.2.2.1,a.2.2.2.2.2.2.2.2.1,a.2.2.2.2.2.2.2.2.2.1,a.2.2.2.2.2.2.2.2.2.2)))) else none) else none)))) else none) else none)
def gb (p:Int) (a:List df) (n:List cy) (b c e:Int) (l:List Int) (h:List cq) (m:List cR) (i:List dj) (k:List cY) (j:Bool) (f:List bV) (g:List Int):Option (Int×Int×List cy×List cq×List Int×List Int×List bV×List cR×List dj×List cY):=(bif (decide (0<=p/\p<(f.length:Int))) then (bif j then (some (b,e,n,h,g,l,f,m,i,k)) else ((dM (ix f p).now h).bind λd=>(bif (decide (0<=d/\d<(h.length:Int))) then (bif (decide ((ix h d).pc<(a.length:Int))) then (bif ((decide ((0:Int)<=(ix h d).pc))&&(decide ((ix h d).pc<(a.length:Int)))) then (eu p a n b c e l h m i k f g d (ix a (ix h d).pc)) else none) else (eu p a n b c e l h m i k f g d (df.mk 9 0 0))) else none))) else none)
def gq (p:Int) (a:List df) (i:Int) (h:List Int) (g f:Int) (n:List cy) (b j c:Int) (t:List Int) (d:Int) (q:List Int) (s:List cq) (m:List bV) (o:List Int) (r:List cR) (l:List dj) (k:List cY):Option (Int×Int×List cy×List cq×List Int×List Int×List bV×List cR×List dj×List cY):=(bif ((decide ((0:Int)<=p))&&(decide (p<(m.length:Int)))) then (bif ((ix m p).now==0) then ((gp p m o).bind λe=>(bif (decide (0<=p/\p<(e.2.2.length:Int))) then (gb p a n b c d q s r l k (!e.1) e.2.2 e.2.1) else none)) else (gb p a n b c d q s r l k false m o)) else none)
def iQ (a:Int) (b:List cq):Option (Bool):=(bif (decide (0<=a/\a<(b.length:Int))) then (some ((((ix b a).state==0)||((ix b a).state==2)))) else none)
def ge (c:List cq):Int->Option (((Int) ⊕ (Int))):=λa=>(bif (decide (a<(c.length:Int))) then (bif ((decide ((0:Int)<=a))&&(decide (a<(c.length:Int)))) then ((iQ a c).bind λb=>(bif b then (Option.map Sum.inr (some (a))) else (some (Sum.inl ((i64.wrap (a+1))))))) else none) else (Option.map Sum.inr (some ((-1)))))
def ka (a:List cq):Option (Int):=(dB (ge a) (0))
def jk (b:List cq):Option (Bool):=((ka b).bind λa=>(some ((decide ((0:Int)<=a)))))
def js (b:List cq):Option (Bool):=((jk b).bind λa=>(some ((!a))))
def nT (b c d:Int) (h:List cy) (g:List Int) (e:List cq):Int×(List Int)->Option (((Int×List Int) ⊕ (Int×Int×Int×cE×List cy×List Int×List Int))):=λ(a,f)=>(bif (decide (a<(e.length:Int))) then (bif ((decide ((0:Int)<=a))&&(decide (a<(e.length:Int)))) then (bif (decide ((f++([(ix e a).state]:List Int)).length*8<=140737488355328)) then (some (Sum.inl ((i64.wrap (a+1)),(f++([(ix e a).state]:List Int))))) else none) else none) else (Option.map Sum.inr (some (b,c,d,(cE.mk 0 0),h,f,g))))
def mn (a b c:Int) (f:List cy) (g e:List Int) (d:List cq):Option (Int×Int×Int×cE×List cy×List Int×List Int):=(dB (nT a b c f e d) (0,g))
def mo (h b:Int) (m:List Int) (a c d:Int) (n:List cy) (k:List Int) (l:List cq) (j:List bV) (g:List Int) (i:List cR) (e:List dj) (f:List cY):Option (((Int×Int×Int×Int×Int×List cy×List Int×List Int×List cq×List bV×List Int×List cR×List dj×List cY) ⊕ (Int×Int×Int×cE×List cy×List Int×List Int))):=(some (Sum.inl ((i64.wrap (h+1)),a,(i64.wrap (b+1)),c,d,n,m,k,l,j,g,i,e,f)))
def mq (g a:Int) (n:List Int) (c b d:Int) (m:List cy) (k:List Int) (h:List cq) (j:List bV) (l:List Int) (i:List cR) (e:List dj) (f:List cY) (o:Bool):Option (((Int×Int×Int×Int×Int×List cy×List Int×List Int×List cq×List bV×List Int×List cR×List dj×List cY) ⊕ (Int×Int×Int×cE×List cy×List Int×List Int))):=(bif o then (mo g a n 3 b d m k h j l i e f) else (mo g a n c b d m k h j l i e f))
def mr (h b:Int) (n:List Int) (a c d:Int) (m:List cy) (k:List Int) (e:List cq) (j:List bV) (l:List Int) (i:List cR) (f:List dj) (g:List cY):Option (((Int×Int×Int×Int×Int×List cy×List Int×List Int×List cq×List bV×List Int×List cR×List dj×List cY) ⊕ (Int×Int×Int×cE×List cy×List Int×List Int))):=(bif (a==0) then ((js e).bind λo=>(mq h b n a c d m k e j l i f g o)) else (mq h b n a c d m k e j l i f g false))
def gJ (p:cz) (g:List Int):Int×Int×Int×Int×Int×List cy×List Int×List Int×List cq×List bV×List Int×List cR×List dj×(List cY)->Option (((Int×Int×Int×Int×Int×List cy×List Int×List Int×List cq×List bV×List Int×List cR×List dj×List cY) ⊕ (Int×Int×Int×cE×List cy×List Int×List Int))):=λ(e,a,b,c,f,k,h,i,j,o,r,q,m,n)=>(bif (decide (e<(g.length:Int))) then (bif ((decide ((0:Int)<=e))&&(decide (e<(g.length:Int)))) then (bif (a != 0) then (Option.map Sum.inr (mn a b c k h i j)) else (bif (decide ((ix g e)<0)) then ((jP c j r).bind λl=>(mr e b h a l.1 f k i l.2.2 o l.2.1 q m n)) else ((gq (ix g e) p.Code p.Cells p.Pipes p.Locks p.Groups k a (i64.wrap (b+1)) c h f i j o r q m n).bind λd=>(mr e b h d.1 c d.2.1 d.2.2.1 d.2.2.2.2.2.1 d.2.2.2.1 d.2.2.2.2.2.2.1 d.2.2.2.2.1 d.2.2.2.2.2.2.2.1 d.2.2.2.2.2.2.2.2.1 d.2.2.2.2.2.2.2.2.2)))) else none) else (Option.map Sum.inr (mn a b c k h i j)))
def nU (p:cz) (d:Int) (c:List Int):Int->Option (((Int) ⊕ (Int×Int×Int×cE×List cy×List Int×List Int))):=λb=>(bif (decide (b<(c.length:Int))) then (bif ((decide ((0:Int)<=b))&&(decide (b<(c.length:Int)))) then (bif ((decide ((ix c b)<(-1)))||(decide (d<=(ix c b)))) then ((pq 3 b).bind λe=>(Option.map Sum.inr (some (0,0,0,e,[],[],[])))) else (some (Sum.inl ((i64.wrap (b+1)))))) else none) else (Option.map Sum.inr ((lT p d).bind λa=>(dB (gJ p c) (0,0,0,0,0,[],[],a.1,a.2.1,a.2.2.1,a.2.2.2.1,a.2.2.2.2.1,a.2.2.2.2.2.1,a.2.2.2.2.2.2)))))
def kD (p:cz) (a:Int) (b:List Int):Option (Int×Int×Int×cE×List cy×List Int×List Int):=((qo p).bind λc=>(bif (c.Code != 0) then (some (0,0,0,c,[],[],[])) else (bif ((decide (a<1))||(decide ((16:Int)<a))) then ((pq 3 (-1)).bind λe=>(some (0,0,0,e,[],[],[]))) else (bif (decide ((5000:Int)<(b.length:Int))) then ((pq 2 (-1)).bind λd=>(some (0,0,0,d,[],[],[]))) else (dB (nU p a b) (0))))))
def kE:Option (Bool):=((kD (cz.mk ([(df.mk 15 0 0)]:List df) 0 ([0]:List Int) 0 0) 1 ([0,0]:List Int)).bind λa=>(some (((a.2.2.2.1.Code==0)&&((a.1==3)&&((a.2.1==1)&&((a.2.2.2.2.1.length:Int)==0)))))))
def kb (p:cz):Option (Bool):=(some (((decide ((2000:Int)<(p.Code.length:Int)))||(decide ((2000:Int)<(p.Pipes.length:Int))))))
def gK (a b:Int):Option (cE):=(some ((cE.mk a b)))
def fi (x a:Int):Option (Bool):=(some (((decide ((0:Int)<=x))&&(decide (x<a)))))
def f_ (p:cz) (k x:Int):Option (Bool):=(bif (k==110) then (some (true)) else (bif (k==114) then (fi x 8) else (bif (k==99) then (fi x (p.Code.length:Int)) else (bif (k==109) then (fi x p.Cells) else (bif (k==112) then (fi x (p.Pipes.length:Int)) else (bif (k==108) then (fi x p.Locks) else (bif (k==103) then (fi x p.Groups) else (bif (k==107) then (fi x 2) else (fi x 1)))))))))
def fB (c:Int) (a:Bool):Option (((Int) ⊕ (cE))):=(bif a then ((gK 5 c).bind λb=>(Option.map Sum.inr (some (b)))) else (some (Sum.inl ((i64.wrap (c+1))))))
def dY (p:cz):Int->Option (((Int) ⊕ (cE))):=λa=>(bif (decide (a<(p.Code.length:Int))) then (bif ((decide ((0:Int)<=a))&&(decide (a<(p.Code.length:Int)))) then (bif ((decide ((ix p.Code a).Op<1))||(decide ((22:Int)<(ix p.Code a).Op))) then ((gK 4 a).bind λc=>(Option.map Sum.inr (some (c)))) else (bif ((decide ((0:Int)<=(ix p.Code a).Op))&&(decide ((ix p.Code a).Op<(f7.length:Int)))) then (bif (decide ((0:Int)<((((ix f7 (ix p.Code a).Op)).size:Nat):Int))) then ((f_ p ((((ix f7 (ix p.Code a).Op)).data.getD ((0:Int)).toNat 0).toNat:Int) (ix p.Code a).A).bind λd=>(bif (!d) then (fB a true) else (bif ((decide ((0:Int)<=(ix p.Code a).Op))&&(decide ((ix p.Code a).Op<(f7.length:Int)))) then (bif (decide ((1:Int)<((((ix f7 (ix p.Code a).Op)).size:Nat):Int))) then ((f_ p ((((ix f7 (ix p.Code a).Op)).data.getD ((1:Int)).toNat 0).toNat:Int) (ix p.Code a).B).bind λb=>(fB a (!b))) else none) else none))) else none) else none)) else none) else (Option.map Sum.inr (some ((cE.mk 0 0)))))
def f9 (p:cz):Int->Option (((Int) ⊕ (cE))):=λa=>(bif (decide (a<(p.Pipes.length:Int))) then (bif ((decide ((0:Int)<=a))&&(decide (a<(p.Pipes.length:Int)))) then (bif ((!(!(decide ((ix p.Pipes a)<0))))||((decide ((0:Int)<=a))&&(decide (a<(p.Pipes.length:Int))))) then (bif ((decide ((ix p.Pipes a)<0))||(decide ((100:Int)<(ix p.Pipes a)))) then ((gK 8 a).bind λb=>(Option.map Sum.inr (some (b)))) else (some (Sum.inl ((i64.wrap (a+1)))))) else none) else none) else (Option.map Sum.inr (dB (dY p) (0))))
def iF (p:cz):Option (cE):=(bif ((decide ((1000:Int)<(p.Code.length:Int)))||(decide ((20:Int)<(p.Pipes.length:Int)))) then ((gK 2 0).bind λb=>(some (b))) else (bif ((decide (p.Cells<0))||((decide ((20:Int)<p.Cells))||((decide (p.Locks<0))||((decide ((20:Int)<p.Locks))||((decide (p.Groups<0))||(decide ((20:Int)<p.Groups))))))) then ((gK 3 0).bind λa=>(some (a))) else (dB (f9 p) (0))))
def jS (b:Int) (a:cE):Option (((Int×cE) ⊕ (cE))):=(some (Sum.inl ((i64.wrap (b+1)),a)))
def jT (d:Int) (a:List Int):Int×cE->Option (((Int×cE) ⊕ (cE))):=λ(c,b)=>(bif ((decide (c<(a.length:Int)))&&(b.Code==0)) then (bif ((decide ((0:Int)<=c))&&(decide (c<(a.length:Int)))) then (bif ((!(!(decide ((ix a c)<(-1)))))||((decide ((0:Int)<=c))&&(decide (c<(a.length:Int))))) then (bif ((decide ((ix a c)<(-1)))||(decide (d<=(ix a c)))) then ((gK 3 c).bind λe=>(jS c e)) else (jS c b)) else none) else none) else (Option.map Sum.inr (some (b))))
def gO (b:Int) (a:List Int) (c:cE):Option (cE):=(dB (jT b a) (0,c))
def fW (b:Int) (a:List Int) (c:cE):Option (cE):=(bif ((c.Code==0)&&(decide ((5000:Int)<(a.length:Int)))) then ((gK 2 (-1)).bind λd=>(gO b a d)) else (gO b a c))
def jt (p:cz) (a:Int) (b:List Int):Option (cE):=((iF p).bind λc=>(bif ((c.Code==0)&&((decide (a<1))||(decide ((16:Int)<a)))) then ((gK 3 (-1)).bind λd=>(fW a b d)) else (fW a b c)))
def ju (p:cz) (d:Int) (b:List Int) (c:Bool):Option (Int×Int×Int×Bool×List cy×List Int×List Int):=(bif c then (some (0,0,0,false,[],[],[])) else ((kD p d b).bind λa=>(some (a.1,a.2.1,a.2.2.1,(a.2.2.2.1.Code==0),a.2.2.2.2.1,a.2.2.2.2.2.1,a.2.2.2.2.2.2))))
def kX (p:cz) (b:Int) (a:List Int):Option (Int×Int×Int×Bool×List cy×List Int×List Int):=((kb p).bind λc=>(bif c then (ju p b a true) else (bif (decide ((5000:Int)<(a.length:Int))) then (ju p b a true) else ((jt p b a).bind λd=>(ju p b a (d.Code != 0))))))
def iG (c b:List cy):Int->Option (((Int) ⊕ (Bool))):=λa=>(bif (decide (a<(c.length:Int))) then (bif ((decide ((0:Int)<=a))&&(decide (a<(c.length:Int)))) then (bif ((decide ((0:Int)<=a))&&(decide (a<(b.length:Int)))) then (bif (!(((ix c a).Task==(ix b a).Task)&&(((ix c a).Op==(ix b a).Op)&&(((ix c a).Obj==(ix b a).Obj)&&(((ix c a).Value==(ix b a).Value)&&true))))) then (Option.map Sum.inr (some (false))) else (some (Sum.inl ((i64.wrap (a+1)))))) else none) else none) else (Option.map Sum.inr (some (true))))
def jv (a b:List cy):Option (Bool):=(bif ((a.length:Int) != (b.length:Int)) then (some (false)) else (dB (iG a b) (0)))
def kj (c b:List Int):Int->Option (((Int) ⊕ (Bool))):=λa=>(bif (decide (a<(c.length:Int))) then (bif ((decide ((0:Int)<=a))&&(decide (a<(c.length:Int)))) then (bif ((decide ((0:Int)<=a))&&(decide (a<(b.length:Int)))) then (bif ((ix c a) != (ix b a)) then (Option.map Sum.inr (some (false))) else (some (Sum.inl ((i64.wrap (a+1)))))) else none) else none) else (Option.map Sum.inr (some (true))))
def kp (a b:List Int):Option (Bool):=(bif ((a.length:Int) != (b.length:Int)) then (some (false)) else (dB (kj a b) (0)))
def eX (a:Bool):Option (Bool):=(some (a))
def jd (e b:m5):Option (Bool):=(bif (e.State==b.State) then (bif (e.Steps==b.Steps) then (bif (e.Now==b.Now) then ((kp e.Tasks b.Tasks).bind λc=>(bif c then ((kp e.Cells b.Cells).bind λa=>(bif a then ((jv e.Trace b.Trace).bind λd=>(eX d)) else (eX false))) else (eX false))) else (eX false)) else (eX false)) else (eX false))
def mG (l:List Int):Option ((List Int)):=(bif (decide (l.length*8<=140737488355328)) then (some (l)) else none)
def gB (h a b c:Int) (e:List cy) (g f:List Int) (d:Bool):Option (((Bool×Int×Int×Int×Int×List cy×List Int×List Int) ⊕ (Bool))):=(some (Sum.inl (d,(i64.wrap (h+1)),a,b,c,e,g,f)))
def ij (a:Bool):Option (Bool):=(some (a))
def ik (p:cz) (h:Int) (i b:List Int) (d e g:Int) (k:List cy) (l m:List Int):Int->Option (((Int) ⊕ (Bool))):=λc=>(bif (decide (c<(b.length:Int))) then (bif ((decide ((0:Int)<=c))&&(decide (c<(b.length:Int)))) then (bif ((!(!(decide ((ix b c)<(-1)))))||((decide ((0:Int)<=c))&&(decide (c<(b.length:Int))))) then (bif ((decide ((ix b c)<(-1)))||(decide (h<=(ix b c)))) then (Option.map Sum.inr (some (true))) else (some (Sum.inl ((i64.wrap (c+1)))))) else none) else none) else (Option.map Sum.inr ((mG i).bind λf=>(bif (decide ((f++b).length*8<=140737488355328)) then ((kD p h (f++b)).bind λa=>(bif (a.2.2.2.1.Code==0) then ((jd (m5.mk k d e g l m) (m5.mk a.2.2.2.2.1 a.1 a.2.1 a.2.2.1 a.2.2.2.2.2.1 a.2.2.2.2.2.2)).bind λj=>(ij j)) else (ij false))) else none))))
def il (p:cz) (k:Int) (h j:List Int):Bool×Int×Int×Int×Int×List cy×List Int×(List Int)->Option (((Bool×Int×Int×Int×Int×List cy×List Int×List Int) ⊕ (Bool))):=λ(d,i,a,c,e,f,b,g)=>(bif (decide (i<(b.length:Int))) then (bif d then (gB i a c e f b g true) else (bif ((decide ((0:Int)<=i))&&(decide (i<(b.length:Int)))) then (bif ((ix b i)==0) then (gB i a c e f b g true) else (bif ((decide ((0:Int)<=i))&&(decide (i<(b.length:Int)))) then (gB i a c e f b g ((ix b i)==2)) else none)) else none)) else (Option.map Sum.inr (bif ((!((a==3)&&(!d)))||(decide ((0:Int)<(b.length:Int)))) then (bif (bif (a==3) then (d||(((ix b (0:Int))==3)||((a==0)&&(!d)))) else ((a==0)&&(!d))) then (some (false)) else (bif ((a != 3)||(decide ((5000:Int)<(i64.wrap ((h.length:Int)+(j.length:Int)))))) then (some (true)) else (dB (ik p k h j a c e f b g) (0)))) else none)))
def kF (p:cz) (c:Int) (b e:List Int):Option (Bool):=(kE.bind λd=>(bif (!d) then (some (false)) else ((kX p c b).bind λa=>(bif (!a.2.2.2.1) then (some (true)) else (dB (il p c b e) (false,0,a.1,a.2.1,a.2.2.1,a.2.2.2.2.1,a.2.2.2.2.2.1,a.2.2.2.2.2.2))))))
end
end Go.Proofs.YthcdpjkgdcpkmaaGreatDoor
