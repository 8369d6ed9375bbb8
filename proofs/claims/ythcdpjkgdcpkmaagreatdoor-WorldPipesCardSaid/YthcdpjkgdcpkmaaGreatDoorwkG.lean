/-
 What laws of the chapter wk compute, and lemmas on it.
 No conditions.
-/
import Derived.Test.YthcdpjkgdcpkmaaGreatDoorwkA4
open Go.IntKind (i64)
set_option linter.unusedSimpArgs false
set_option linter.unusedVariables false
namespace Go.Proofs.YthcdpjkgdcpkmaaGreatDoor
noncomputable section
open Go Go.Sx
structure df where
 Op:Int
 A:Int
 B:Int
 deriving Inhabited,DecidableEq
instance : b_ df:=⟨3,λd=>[.v (.int .i64 d.Op),.v (.int .i64 d.A),.v (.int .i64 d.B)],λ_=>rfl,λ_=>rfl,λ_=>by simp only [iq,SV.st,kQ,da]⟩
@[push_cast] theorem Nq (xs:List df):iV (fl xs)=true:=m4 (λ_=>rfl) xs
@[push_cast] theorem w6:b_.sz df=3:=rfl
@[push_cast] theorem Mm (d:df):b_.cells d=[.v (.int .i64 d.Op),.v (.int .i64 d.A),.v (.int .i64 d.B)]:=rfl
@[push_cast] theorem MQ (xs:List df) (x0:Int) (x1:Int) (x2:Int):fl xs++[.v (.int .i64 x0),.v (.int .i64 x1),.v (.int .i64 x2)]=fl (xs++[df.mk x0 x1 x2]):=by rw [fG];rfl
@[push_cast] theorem Mn (xs:List df) (i:Int):(fl xs).getD (i.toNat*3) (.v (.int .i64 0)) = .v (.int .i64 (ix xs i).Op):=by
 have:=fo xs i 0 (by decide) (.v (.int .i64 0):SV) rfl
 rw [w6,eF] at this
 exact this
@[push_cast] theorem MR (xs:List df) (i:Int):(fl xs).getD (i.toNat*3+1) (.v (.int .i64 0)) = .v (.int .i64 (ix xs i).A):=by
 have:=fo xs i 1 (by decide) (.v (.int .i64 0):SV) rfl
 rw [w6] at this
 exact this
@[push_cast] theorem MS (xs:List df) (i:Int):(fl xs).getD (i.toNat*3+2) (.v (.int .i64 0)) = .v (.int .i64 (ix xs i).B):=by
 have:=fo xs i 2 (by decide) (.v (.int .i64 0):SV) rfl
 rw [w6] at this
 exact this
structure cy where
 Code:(List df)
 Cells:Int
 Pipes:(List Int)
 Locks:Int
 Groups:Int
 deriving Inhabited,DecidableEq
instance : b_ cy:=⟨5,λd=>[.sl d.Code.length (fl d.Code),.v (.int .i64 d.Cells),.sl d.Pipes.length (fl d.Pipes),.v (.int .i64 d.Locks),.v (.int .i64 d.Groups)],λ_=>rfl,λ_=>rfl,λ_=>by simp only [iq,SV.st,kQ,da]⟩
@[push_cast] theorem ua:b_.sz cy=5:=rfl
@[push_cast] theorem Ax (d:cy):b_.cells d=[.sl d.Code.length (fl d.Code),.v (.int .i64 d.Cells),.sl d.Pipes.length (fl d.Pipes),.v (.int .i64 d.Locks),.v (.int .i64 d.Groups)]:=rfl
@[push_cast] theorem Lp (xs:List cy) (x0:(List df)) (x1:Int) (x2:(List Int)) (x3:Int) (x4:Int):fl xs++[.sl x0.length (fl x0),.v (.int .i64 x1),.sl x2.length (fl x2),.v (.int .i64 x3),.v (.int .i64 x4)]=fl (xs++[cy.mk x0 x1 x2 x3 x4]):=by rw [fG];rfl
@[push_cast] theorem Ib (xs:List cy) (i:Int):(fl xs).getD (i.toNat*5+1) (.v (.int .i64 0)) = .v (.int .i64 (ix xs i).Cells):=by
 have:=fo xs i 1 (by decide) (.v (.int .i64 0):SV) rfl
 rw [ua] at this
 exact this
@[push_cast] theorem Ic (xs:List cy) (i:Int):(fl xs).getD (i.toNat*5+3) (.v (.int .i64 0)) = .v (.int .i64 (ix xs i).Locks):=by
 have:=fo xs i 3 (by decide) (.v (.int .i64 0):SV) rfl
 rw [ua] at this
 exact this
@[push_cast] theorem HS (xs:List cy) (i:Int):(fl xs).getD (i.toNat*5+4) (.v (.int .i64 0)) = .v (.int .i64 (ix xs i).Groups):=by
 have:=fo xs i 4 (by decide) (.v (.int .i64 0):SV) rfl
 rw [ua] at this
 exact this
structure cC where
 Code:Int
 At:Int
 deriving Inhabited,DecidableEq
instance : b_ cC:=⟨2,λd=>[.v (.int .i64 d.Code),.v (.int .i64 d.At)],λ_=>rfl,λ_=>rfl,λ_=>by simp only [iq,SV.st,kQ,da]⟩
@[push_cast] theorem NT (xs:List cC):iV (fl xs)=true:=m4 (λ_=>rfl) xs
@[push_cast] theorem Dl:b_.sz cC=2:=rfl
@[push_cast] theorem MT (d:cC):b_.cells d=[.v (.int .i64 d.Code),.v (.int .i64 d.At)]:=rfl
@[push_cast] theorem Nr (xs:List cC) (x0:Int) (x1:Int):fl xs++[.v (.int .i64 x0),.v (.int .i64 x1)]=fl (xs++[cC.mk x0 x1]):=by rw [fG];rfl
@[push_cast] theorem Lq (xs:List cC) (i:Int):(fl xs).getD (i.toNat*2) (.v (.int .i64 0)) = .v (.int .i64 (ix xs i).Code):=by
 have:=fo xs i 0 (by decide) (.v (.int .i64 0):SV) rfl
 rw [Dl,eF] at this
 exact this
@[push_cast] theorem MU (xs:List cC) (i:Int):(fl xs).getD (i.toNat*2+1) (.v (.int .i64 0)) = .v (.int .i64 (ix xs i).At):=by
 have:=fo xs i 1 (by decide) (.v (.int .i64 0):SV) rfl
 rw [Dl] at this
 exact this
structure kind where
 name:ByteArray
 args:ByteArray
 deriving Inhabited,DecidableEq
instance : b_ kind:=⟨2,λd=>[.v (.string d.name),.v (.string d.args)],λ_=>rfl,λ_=>rfl,λ_=>by simp only [iq,SV.st,kQ,da]⟩
@[push_cast] theorem Ol (xs:List kind):iV (fl xs)=true:=m4 (λ_=>rfl) xs
@[push_cast] theorem Ow:b_.sz kind=2:=rfl
@[push_cast] theorem Ns (d:kind):b_.cells d=[.v (.string d.name),.v (.string d.args)]:=rfl
@[push_cast] theorem NU (xs:List kind) (x0:ByteArray) (x1:ByteArray):fl xs++[.v (.string x0),.v (.string x1)]=fl (xs++[kind.mk x0 x1]):=by rw [fG];rfl
structure cq where
 pc:Int
 r:dm 8
 state:Int
 when:Int
 seq:Int
 deriving Inhabited,DecidableEq
instance : b_ cq:=⟨12,λd=>((.v (.int .i64 d.pc)::(b_.cells d.r++(.v (.int .i64 d.state)::(.v (.int .i64 d.when)::(.v (.int .i64 d.seq)::[]))))):List SV),(λ_=>by simp only [KJ,f_,List.length_nil]),(λ_=>by simp only [KL,mK,List.all_nil,jo,Value.oneCell',da]),λ_=>by simp only [E0,iq,SV.st,kQ,da]⟩
@[push_cast] theorem Om (xs:List cq):iV (fl xs)=true:=m4 (λ_=>rfl) xs
@[push_cast] theorem xw:b_.sz cq=12:=rfl
@[push_cast] theorem Nt (d:cq):b_.cells d=((.v (.int .i64 d.pc)::(b_.cells d.r++(.v (.int .i64 d.state)::(.v (.int .i64 d.when)::(.v (.int .i64 d.seq)::[]))))):List SV):=rfl
@[push_cast] theorem NV (xs:List cq) (x0:Int) (x1:dm 8) (x9:Int) (x10:Int) (x11:Int):fl xs++((.v (.int .i64 x0)::(b_.cells x1++(.v (.int .i64 x9)::(.v (.int .i64 x10)::(.v (.int .i64 x11)::[]))))):List SV)=fl (xs++[cq.mk x0 x1 x9 x10 x11]):=by rw [fG];rfl
@[push_cast] theorem Nu (xs:List cq) (i:Int):(fl xs).getD (i.toNat*12) (.v (.int .i64 0)) = .v (.int .i64 (ix xs i).pc):=by
 have:=fo xs i 0 (by decide) (.v (.int .i64 0):SV) rfl
 rw [xw,eF] at this
 exact this
@[push_cast] theorem Lr (xs:List cq) (i:Int):(fl xs).getD (i.toNat*12+9) (.v (.int .i64 0)) = .v (.int .i64 (ix xs i).state):=by
 have:=fo xs i 9 (by decide) (.v (.int .i64 0):SV) rfl
 rw [xw] at this
 exact this
@[push_cast] theorem Mo (xs:List cq) (i:Int):(fl xs).getD (i.toNat*12+10) (.v (.int .i64 0)) = .v (.int .i64 (ix xs i).when):=by
 have:=fo xs i 10 (by decide) (.v (.int .i64 0):SV) rfl
 rw [xw] at this
 exact this
@[push_cast] theorem MW (xs:List cq) (i:Int):(fl xs).getD (i.toNat*12+11) (.v (.int .i64 0)) = .v (.int .i64 (ix xs i).seq):=by
 have:=fo xs i 11 (by decide) (.v (.int .i64 0):SV) rfl
 rw [xw] at this
 exact this
structure bV where
 now:Int
 Ring_Next:Int
 Ring_List:(List Int)
 deriving Inhabited,DecidableEq
instance : b_ bV:=⟨3,λd=>[.v (.int .i64 d.now),.v (.int .i64 d.Ring_Next),.sl d.Ring_List.length (fl d.Ring_List)],λ_=>rfl,λ_=>rfl,λ_=>by simp only [iq,SV.st,kQ,da]⟩
@[push_cast] theorem w7:b_.sz bV=3:=rfl
@[push_cast] theorem Jp (d:bV):b_.cells d=[.v (.int .i64 d.now),.v (.int .i64 d.Ring_Next),.sl d.Ring_List.length (fl d.Ring_List)]:=rfl
@[push_cast] theorem KO (xs:List bV) (x0:Int) (x1:Int) (x2:(List Int)):fl xs++[.v (.int .i64 x0),.v (.int .i64 x1),.sl x2.length (fl x2)]=fl (xs++[bV.mk x0 x1 x2]):=by rw [fG];rfl
@[push_cast] theorem IW (xs:List bV) (i:Int):(fl xs).getD (i.toNat*3) (.v (.int .i64 0)) = .v (.int .i64 (ix xs i).now):=by
 have:=fo xs i 0 (by decide) (.v (.int .i64 0):SV) rfl
 rw [w7,eF] at this
 exact this
@[push_cast] theorem Ep (xs:List bV) (i:Int):(fl xs).getD (i.toNat*3+1) (.v (.int .i64 0)) = .v (.int .i64 (ix xs i).Ring_Next):=by
 have:=fo xs i 1 (by decide) (.v (.int .i64 0):SV) rfl
 rw [w7] at this
 exact this
structure cH where
 Task:Int
 Case:Int
 Value:Int
 deriving Inhabited,DecidableEq
instance : b_ cH:=⟨3,λd=>[.v (.int .i64 d.Task),.v (.int .i64 d.Case),.v (.int .i64 d.Value)],λ_=>rfl,λ_=>rfl,λ_=>by simp only [iq,SV.st,kQ,da]⟩
@[push_cast] theorem NW (xs:List cH):iV (fl xs)=true:=m4 (λ_=>rfl) xs
@[push_cast] theorem yA:b_.sz cH=3:=rfl
@[push_cast] theorem MX (d:cH):b_.cells d=[.v (.int .i64 d.Task),.v (.int .i64 d.Case),.v (.int .i64 d.Value)]:=rfl
@[push_cast] theorem Nv (xs:List cH) (x0:Int) (x1:Int) (x2:Int):fl xs++[.v (.int .i64 x0),.v (.int .i64 x1),.v (.int .i64 x2)]=fl (xs++[cH.mk x0 x1 x2]):=by rw [fG];rfl
@[push_cast] theorem Ls (xs:List cH) (i:Int):(fl xs).getD (i.toNat*3) (.v (.int .i64 0)) = .v (.int .i64 (ix xs i).Task):=by
 have:=fo xs i 0 (by decide) (.v (.int .i64 0):SV) rfl
 rw [yA,eF] at this
 exact this
@[push_cast] theorem Lt (xs:List cH) (i:Int):(fl xs).getD (i.toNat*3+1) (.v (.int .i64 0)) = .v (.int .i64 (ix xs i).Case):=by
 have:=fo xs i 1 (by decide) (.v (.int .i64 0):SV) rfl
 rw [yA] at this
 exact this
@[push_cast] theorem KP (xs:List cH) (i:Int):(fl xs).getD (i.toNat*3+2) (.v (.int .i64 0)) = .v (.int .i64 (ix xs i).Value):=by
 have:=fo xs i 2 (by decide) (.v (.int .i64 0):SV) rfl
 rw [yA] at this
 exact this
structure cQ where
 Cap:Int
 Items:(List Int)
 Closed:Bool
 Senders:(List cH)
 Getters:(List cH)
 deriving Inhabited,DecidableEq
instance : b_ cQ:=⟨5,λd=>[.v (.int .i64 d.Cap),.sl d.Items.length (fl d.Items),.v (.bool d.Closed),.sl d.Senders.length (fl d.Senders),.sl d.Getters.length (fl d.Getters)],λ_=>rfl,λ_=>rfl,λ_=>by simp only [iq,SV.st,kQ,da]⟩
@[push_cast] theorem Fa:b_.sz cQ=5:=rfl
@[push_cast] theorem Nw (d:cQ):b_.cells d=[.v (.int .i64 d.Cap),.sl d.Items.length (fl d.Items),.v (.bool d.Closed),.sl d.Senders.length (fl d.Senders),.sl d.Getters.length (fl d.Getters)]:=rfl
@[push_cast] theorem NX (xs:List cQ) (x0:Int) (x1:(List Int)) (x2:Bool) (x3:(List cH)) (x4:(List cH)):fl xs++[.v (.int .i64 x0),.sl x1.length (fl x1),.v (.bool x2),.sl x3.length (fl x3),.sl x4.length (fl x4)]=fl (xs++[cQ.mk x0 x1 x2 x3 x4]):=by rw [fG];rfl
@[push_cast] theorem MY (xs:List cQ) (i:Int):(fl xs).getD (i.toNat*5) (.v (.int .i64 0)) = .v (.int .i64 (ix xs i).Cap):=by
 have:=fo xs i 0 (by decide) (.v (.int .i64 0):SV) rfl
 rw [Fa,eF] at this
 exact this
@[push_cast] theorem KQ (xs:List cQ) (i:Int):(fl xs).getD (i.toNat*5+2) (.v (.bool false)) = .v (.bool (ix xs i).Closed):=by
 have:=fo xs i 2 (by decide) (.v (.bool false):SV) rfl
 rw [Fa] at this
 exact this
structure dQ where
 Task:Int
 Write:Bool
 N:Int
 deriving Inhabited,DecidableEq
instance : b_ dQ:=⟨3,λd=>[.v (.int .i64 d.Task),.v (.bool d.Write),.v (.int .i64 d.N)],λ_=>rfl,λ_=>rfl,λ_=>by simp only [iq,SV.st,kQ,da]⟩
@[push_cast] theorem On (xs:List dQ):iV (fl xs)=true:=m4 (λ_=>rfl) xs
@[push_cast] theorem Ay:b_.sz dQ=3:=rfl
@[push_cast] theorem Nx (d:dQ):b_.cells d=[.v (.int .i64 d.Task),.v (.bool d.Write),.v (.int .i64 d.N)]:=rfl
@[push_cast] theorem NY (xs:List dQ) (x0:Int) (x1:Bool) (x2:Int):fl xs++[.v (.int .i64 x0),.v (.bool x1),.v (.int .i64 x2)]=fl (xs++[dQ.mk x0 x1 x2]):=by rw [fG];rfl
@[push_cast] theorem Mp (xs:List dQ) (i:Int):(fl xs).getD (i.toNat*3) (.v (.int .i64 0)) = .v (.int .i64 (ix xs i).Task):=by
 have:=fo xs i 0 (by decide) (.v (.int .i64 0):SV) rfl
 rw [Ay,eF] at this
 exact this
@[push_cast] theorem Lu (xs:List dQ) (i:Int):(fl xs).getD (i.toNat*3+1) (.v (.bool false)) = .v (.bool (ix xs i).Write):=by
 have:=fo xs i 1 (by decide) (.v (.bool false):SV) rfl
 rw [Ay] at this
 exact this
@[push_cast] theorem NZ (xs:List dQ) (i:Int):(fl xs).getD (i.toNat*3+2) (.v (.int .i64 0)) = .v (.int .i64 (ix xs i).N):=by
 have:=fo xs i 2 (by decide) (.v (.int .i64 0):SV) rfl
 rw [Ay] at this
 exact this
structure dh where
 Readers:Int
 Writer:Bool
 Line:(List dQ)
 deriving Inhabited,DecidableEq
instance : b_ dh:=⟨3,λd=>[.v (.int .i64 d.Readers),.v (.bool d.Writer),.sl d.Line.length (fl d.Line)],λ_=>rfl,λ_=>rfl,λ_=>by simp only [iq,SV.st,kQ,da]⟩
@[push_cast] theorem Fb:b_.sz dh=3:=rfl
@[push_cast] theorem Ny (d:dh):b_.cells d=[.v (.int .i64 d.Readers),.v (.bool d.Writer),.sl d.Line.length (fl d.Line)]:=rfl
@[push_cast] theorem N0 (xs:List dh) (x0:Int) (x1:Bool) (x2:(List dQ)):fl xs++[.v (.int .i64 x0),.v (.bool x1),.sl x2.length (fl x2)]=fl (xs++[dh.mk x0 x1 x2]):=by rw [fG];rfl
@[push_cast] theorem Jq (xs:List dh) (i:Int):(fl xs).getD (i.toNat*3) (.v (.int .i64 0)) = .v (.int .i64 (ix xs i).Readers):=by
 have:=fo xs i 0 (by decide) (.v (.int .i64 0):SV) rfl
 rw [Fb,eF] at this
 exact this
@[push_cast] theorem KR (xs:List dh) (i:Int):(fl xs).getD (i.toNat*3+1) (.v (.bool false)) = .v (.bool (ix xs i).Writer):=by
 have:=fo xs i 1 (by decide) (.v (.bool false):SV) rfl
 rw [Fb] at this
 exact this
structure cX where
 Count:Int
 Line:(List Int)
 deriving Inhabited,DecidableEq
instance : b_ cX:=⟨2,λd=>[.v (.int .i64 d.Count),.sl d.Line.length (fl d.Line)],λ_=>rfl,λ_=>rfl,λ_=>by simp only [iq,SV.st,kQ,da]⟩
@[push_cast] theorem IX:b_.sz cX=2:=rfl
@[push_cast] theorem MZ (d:cX):b_.cells d=[.v (.int .i64 d.Count),.sl d.Line.length (fl d.Line)]:=rfl
@[push_cast] theorem Nz (xs:List cX) (x0:Int) (x1:(List Int)):fl xs++[.v (.int .i64 x0),.sl x1.length (fl x1)]=fl (xs++[cX.mk x0 x1]):=by rw [fG];rfl
@[push_cast] theorem KS (xs:List cX) (i:Int):(fl xs).getD (i.toNat*2) (.v (.int .i64 0)) = .v (.int .i64 (ix xs i).Count):=by
 have:=fo xs i 0 (by decide) (.v (.int .i64 0):SV) rfl
 rw [IX,eF] at this
 exact this
structure cz where
 Task:Int
 Op:Int
 Obj:Int
 Value:Int
 deriving Inhabited,DecidableEq
instance : b_ cz:=⟨4,λd=>[.v (.int .i64 d.Task),.v (.int .i64 d.Op),.v (.int .i64 d.Obj),.v (.int .i64 d.Value)],λ_=>rfl,λ_=>rfl,λ_=>by simp only [iq,SV.st,kQ,da]⟩
@[push_cast] theorem NA (xs:List cz):iV (fl xs)=true:=m4 (λ_=>rfl) xs
@[push_cast] theorem tI:b_.sz cz=4:=rfl
@[push_cast] theorem Mq (d:cz):b_.cells d=[.v (.int .i64 d.Task),.v (.int .i64 d.Op),.v (.int .i64 d.Obj),.v (.int .i64 d.Value)]:=rfl
@[push_cast] theorem M0 (xs:List cz) (x0:Int) (x1:Int) (x2:Int) (x3:Int):fl xs++[.v (.int .i64 x0),.v (.int .i64 x1),.v (.int .i64 x2),.v (.int .i64 x3)]=fl (xs++[cz.mk x0 x1 x2 x3]):=by rw [fG];rfl
@[push_cast] theorem KT (xs:List cz) (i:Int):(fl xs).getD (i.toNat*4) (.v (.int .i64 0)) = .v (.int .i64 (ix xs i).Task):=by
 have:=fo xs i 0 (by decide) (.v (.int .i64 0):SV) rfl
 rw [tI,eF] at this
 exact this
@[push_cast] theorem Mr (xs:List cz) (i:Int):(fl xs).getD (i.toNat*4+1) (.v (.int .i64 0)) = .v (.int .i64 (ix xs i).Op):=by
 have:=fo xs i 1 (by decide) (.v (.int .i64 0):SV) rfl
 rw [tI] at this
 exact this
@[push_cast] theorem Lv (xs:List cz) (i:Int):(fl xs).getD (i.toNat*4+2) (.v (.int .i64 0)) = .v (.int .i64 (ix xs i).Obj):=by
 have:=fo xs i 2 (by decide) (.v (.int .i64 0):SV) rfl
 rw [tI] at this
 exact this
@[push_cast] theorem Jr (xs:List cz) (i:Int):(fl xs).getD (i.toNat*4+3) (.v (.int .i64 0)) = .v (.int .i64 (ix xs i).Value):=by
 have:=fo xs i 3 (by decide) (.v (.int .i64 0):SV) rfl
 rw [tI] at this
 exact this
structure fx where
 Next:Int
 List:(List Int)
 deriving Inhabited,DecidableEq
instance : b_ fx:=⟨2,λd=>[.v (.int .i64 d.Next),.sl d.List.length (fl d.List)],λ_=>rfl,λ_=>rfl,λ_=>by simp only [iq,SV.st,kQ,da]⟩
@[push_cast] theorem KU:b_.sz fx=2:=rfl
@[push_cast] theorem NB (d:fx):b_.cells d=[.v (.int .i64 d.Next),.sl d.List.length (fl d.List)]:=rfl
@[push_cast] theorem N7 (xs:List fx) (x0:Int) (x1:(List Int)):fl xs++[.v (.int .i64 x0),.sl x1.length (fl x1)]=fl (xs++[fx.mk x0 x1]):=by rw [fG];rfl
@[push_cast] theorem Ms (xs:List fx) (i:Int):(fl xs).getD (i.toNat*2) (.v (.int .i64 0)) = .v (.int .i64 (ix xs i).Next):=by
 have:=fo xs i 0 (by decide) (.v (.int .i64 0):SV) rfl
 rw [KU,eF] at this
 exact this
structure dc where
 Task:Int
 Case:Int
 Value:Int
 Ok:Bool
 Panic:Bool
 deriving Inhabited,DecidableEq
instance : b_ dc:=⟨5,λd=>[.v (.int .i64 d.Task),.v (.int .i64 d.Case),.v (.int .i64 d.Value),.v (.bool d.Ok),.v (.bool d.Panic)],λ_=>rfl,λ_=>rfl,λ_=>by simp only [iq,SV.st,kQ,da]⟩
@[push_cast] theorem N8 (xs:List dc):iV (fl xs)=true:=m4 (λ_=>rfl) xs
@[push_cast] theorem s6:b_.sz dc=5:=rfl
@[push_cast] theorem M7 (d:dc):b_.cells d=[.v (.int .i64 d.Task),.v (.int .i64 d.Case),.v (.int .i64 d.Value),.v (.bool d.Ok),.v (.bool d.Panic)]:=rfl
@[push_cast] theorem NC (xs:List dc) (x0:Int) (x1:Int) (x2:Int) (x3:Bool) (x4:Bool):fl xs++[.v (.int .i64 x0),.v (.int .i64 x1),.v (.int .i64 x2),.v (.bool x3),.v (.bool x4)]=fl (xs++[dc.mk x0 x1 x2 x3 x4]):=by rw [fG];rfl
@[push_cast] theorem Lw (xs:List dc) (i:Int):(fl xs).getD (i.toNat*5) (.v (.int .i64 0)) = .v (.int .i64 (ix xs i).Task):=by
 have:=fo xs i 0 (by decide) (.v (.int .i64 0):SV) rfl
 rw [s6,eF] at this
 exact this
@[push_cast] theorem Lx (xs:List dc) (i:Int):(fl xs).getD (i.toNat*5+1) (.v (.int .i64 0)) = .v (.int .i64 (ix xs i).Case):=by
 have:=fo xs i 1 (by decide) (.v (.int .i64 0):SV) rfl
 rw [s6] at this
 exact this
@[push_cast] theorem KV (xs:List dc) (i:Int):(fl xs).getD (i.toNat*5+2) (.v (.int .i64 0)) = .v (.int .i64 (ix xs i).Value):=by
 have:=fo xs i 2 (by decide) (.v (.int .i64 0):SV) rfl
 rw [s6] at this
 exact this
@[push_cast] theorem M8 (xs:List dc) (i:Int):(fl xs).getD (i.toNat*5+3) (.v (.bool false)) = .v (.bool (ix xs i).Ok):=by
 have:=fo xs i 3 (by decide) (.v (.bool false):SV) rfl
 rw [s6] at this
 exact this
@[push_cast] theorem KW (xs:List dc) (i:Int):(fl xs).getD (i.toNat*5+4) (.v (.bool false)) = .v (.bool (ix xs i).Panic):=by
 have:=fo xs i 4 (by decide) (.v (.bool false):SV) rfl
 rw [s6] at this
 exact this
structure li where
 Done:Bool
 Panic:Bool
 Ok:Bool
 Value:Int
 Case:Int
 Wakes:(List dc)
 deriving Inhabited,DecidableEq
instance : b_ li:=⟨6,λd=>[.v (.bool d.Done),.v (.bool d.Panic),.v (.bool d.Ok),.v (.int .i64 d.Value),.v (.int .i64 d.Case),.sl d.Wakes.length (fl d.Wakes)],λ_=>rfl,λ_=>rfl,λ_=>by simp only [iq,SV.st,kQ,da]⟩
@[push_cast] theorem rG:b_.sz li=6:=rfl
@[push_cast] theorem Mt (d:li):b_.cells d=[.v (.bool d.Done),.v (.bool d.Panic),.v (.bool d.Ok),.v (.int .i64 d.Value),.v (.int .i64 d.Case),.sl d.Wakes.length (fl d.Wakes)]:=rfl
@[push_cast] theorem M9 (xs:List li) (x0:Bool) (x1:Bool) (x2:Bool) (x3:Int) (x4:Int) (x5:(List dc)):fl xs++[.v (.bool x0),.v (.bool x1),.v (.bool x2),.v (.int .i64 x3),.v (.int .i64 x4),.sl x5.length (fl x5)]=fl (xs++[li.mk x0 x1 x2 x3 x4 x5]):=by rw [fG];rfl
@[push_cast] theorem KX (xs:List li) (i:Int):(fl xs).getD (i.toNat*6) (.v (.bool false)) = .v (.bool (ix xs i).Done):=by
 have:=fo xs i 0 (by decide) (.v (.bool false):SV) rfl
 rw [rG,eF] at this
 exact this
@[push_cast] theorem Js (xs:List li) (i:Int):(fl xs).getD (i.toNat*6+1) (.v (.bool false)) = .v (.bool (ix xs i).Panic):=by
 have:=fo xs i 1 (by decide) (.v (.bool false):SV) rfl
 rw [rG] at this
 exact this
@[push_cast] theorem Mu (xs:List li) (i:Int):(fl xs).getD (i.toNat*6+2) (.v (.bool false)) = .v (.bool (ix xs i).Ok):=by
 have:=fo xs i 2 (by decide) (.v (.bool false):SV) rfl
 rw [rG] at this
 exact this
@[push_cast] theorem Jt (xs:List li) (i:Int):(fl xs).getD (i.toNat*6+3) (.v (.int .i64 0)) = .v (.int .i64 (ix xs i).Value):=by
 have:=fo xs i 3 (by decide) (.v (.int .i64 0):SV) rfl
 rw [rG] at this
 exact this
@[push_cast] theorem KY (xs:List li) (i:Int):(fl xs).getD (i.toNat*6+4) (.v (.int .i64 0)) = .v (.int .i64 (ix xs i).Case):=by
 have:=fo xs i 4 (by decide) (.v (.int .i64 0):SV) rfl
 rw [rG] at this
 exact this
structure jR where
 Trace:(List cz)
 State:Int
 Steps:Int
 Now:Int
 Tasks:(List Int)
 Cells:(List Int)
 deriving Inhabited,DecidableEq
instance : b_ jR:=⟨6,λd=>[.sl d.Trace.length (fl d.Trace),.v (.int .i64 d.State),.v (.int .i64 d.Steps),.v (.int .i64 d.Now),.sl d.Tasks.length (fl d.Tasks),.sl d.Cells.length (fl d.Cells)],λ_=>rfl,λ_=>rfl,λ_=>by simp only [iq,SV.st,kQ,da]⟩
@[push_cast] theorem w8:b_.sz jR=6:=rfl
@[push_cast] theorem Mv (d:jR):b_.cells d=[.sl d.Trace.length (fl d.Trace),.v (.int .i64 d.State),.v (.int .i64 d.Steps),.v (.int .i64 d.Now),.sl d.Tasks.length (fl d.Tasks),.sl d.Cells.length (fl d.Cells)]:=rfl
@[push_cast] theorem M_ (xs:List jR) (x0:(List cz)) (x1:Int) (x2:Int) (x3:Int) (x4:(List Int)) (x5:(List Int)):fl xs++[.sl x0.length (fl x0),.v (.int .i64 x1),.v (.int .i64 x2),.v (.int .i64 x3),.sl x4.length (fl x4),.sl x5.length (fl x5)]=fl (xs++[jR.mk x0 x1 x2 x3 x4 x5]):=by rw [fG];rfl
@[push_cast] theorem Ju (xs:List jR) (i:Int):(fl xs).getD (i.toNat*6+1) (.v (.int .i64 0)) = .v (.int .i64 (ix xs i).State):=by
 have:=fo xs i 1 (by decide) (.v (.int .i64 0):SV) rfl
 rw [w8] at this
 exact this
@[push_cast] theorem Jv (xs:List jR) (i:Int):(fl xs).getD (i.toNat*6+2) (.v (.int .i64 0)) = .v (.int .i64 (ix xs i).Steps):=by
 have:=fo xs i 2 (by decide) (.v (.int .i64 0):SV) rfl
 rw [w8] at this
 exact this
@[push_cast] theorem Ly (xs:List jR) (i:Int):(fl xs).getD (i.toNat*6+3) (.v (.int .i64 0)) = .v (.int .i64 (ix xs i).Now):=by
 have:=fo xs i 3 (by decide) (.v (.int .i64 0):SV) rfl
 rw [w8] at this
 exact this
def ib:List kind:=[⟨⟨#[]⟩,⟨#[]⟩⟩,⟨⟨#[115,101,116]⟩,⟨#[114,110]⟩⟩,⟨⟨#[99,111,112,121]⟩,⟨#[114,114]⟩⟩,⟨⟨#[97,100,100]⟩,⟨#[114,114]⟩⟩,⟨⟨#[115,117,98]⟩,⟨#[114,114]⟩⟩,⟨⟨#[108,101,115,115]⟩,⟨#[114,114]⟩⟩,⟨⟨#[106,117,109,112]⟩,⟨#[99,45]⟩⟩,⟨⟨#[122,101,114,111]⟩,⟨#[114,99]⟩⟩,⟨⟨#[112,114,105,110,116]⟩,⟨#[114,45]⟩⟩,⟨⟨#[101,110,100]⟩,⟨#[45,45]⟩⟩,⟨⟨#[121,105,101,108,100]⟩,⟨#[45,45]⟩⟩,⟨⟨#[103,111]⟩,⟨#[99,114]⟩⟩,⟨⟨#[108,111,97,100]⟩,⟨#[114,109]⟩⟩,⟨⟨#[115,116,111,114,101]⟩,⟨#[109,114]⟩⟩,⟨⟨#[115,101,110,100]⟩,⟨#[112,114]⟩⟩,⟨⟨#[103,101,116]⟩,⟨#[114,112]⟩⟩,⟨⟨#[115,104,117,116]⟩,⟨#[112,45]⟩⟩,⟨⟨#[108,111,99,107]⟩,⟨#[108,107]⟩⟩,⟨⟨#[117,110,108,111,99,107]⟩,⟨#[108,107]⟩⟩,⟨⟨#[99,111,117,110,116]⟩,⟨#[103,114]⟩⟩,⟨⟨#[119,97,105,116]⟩,⟨#[103,45]⟩⟩,⟨⟨#[115,108,101,101,112]⟩,⟨#[114,45]⟩⟩,⟨⟨#[112,97,110,105,99]⟩,⟨#[45,45]⟩⟩]
def fX:List ByteArray:=[⟨#[]⟩,⟨#[114,110]⟩,⟨#[114,114]⟩,⟨#[114,114]⟩,⟨#[114,114]⟩,⟨#[114,114]⟩,⟨#[99,45]⟩,⟨#[114,99]⟩,⟨#[114,45]⟩,⟨#[45,45]⟩,⟨#[45,45]⟩,⟨#[99,114]⟩,⟨#[114,109]⟩,⟨#[109,114]⟩,⟨#[112,114]⟩,⟨#[114,112]⟩,⟨#[112,45]⟩,⟨#[108,107]⟩,⟨#[108,107]⟩,⟨#[103,114]⟩,⟨#[103,45]⟩,⟨#[114,45]⟩,⟨#[45,45]⟩]
def nu (a b:Int):Option (cC):=(some ((cC.mk a b)))
def rH (p:cy) (k x:Int):Option (Bool):=(bif (k==110) then (some (true)) else (some (((decide ((0:Int)<=x))&&(decide (x<(fU [(114,8),(99,(p.Code.length:Int)),(109,p.Cells),(112,(p.Pipes.length:Int)),(108,p.Locks),(103,p.Groups),(107,2),(45,1)] k)))))))
def pz (a:Int) (b:Bool):Option (((Int) ⊕ (cC))):=(bif b then ((nu 5 a).bind λc=>(Option.map Sum.inr (some (c)))) else (some (Sum.inl ((i64.wrap (a+1))))))
def jf (p:cy):Int->Option (((Int) ⊕ (cC))):=λa=>(bif (decide (a<(p.Code.length:Int))) then (bif ((decide ((0:Int)<=a))&&(decide (a<(p.Code.length:Int)))) then (bif ((decide ((ix p.Code a).Op<1))||(decide ((23:Int)<=(ix p.Code a).Op))) then ((nu 4 a).bind λc=>(Option.map Sum.inr (some (c)))) else (bif ((decide ((0:Int)<=(ix p.Code a).Op))&&(decide ((ix p.Code a).Op<(ib.length:Int)))) then (bif (decide ((0:Int)<((((ix ib (ix p.Code a).Op).args).size:Nat):Int))) then ((rH p ((((ix ib (ix p.Code a).Op).args).data.getD ((0:Int)).toNat 0).toNat:Int) (ix p.Code a).A).bind λd=>(bif (!d) then (pz a true) else (bif (decide ((1:Int)<((((ix ib (ix p.Code a).Op).args).size:Nat):Int))) then ((rH p ((((ix ib (ix p.Code a).Op).args).data.getD ((1:Int)).toNat 0).toNat:Int) (ix p.Code a).B).bind λb=>(pz a (!b))) else none))) else none) else none)) else none) else (Option.map Sum.inr (some ((cC.mk 0 0)))))
def md (p:cy):Int->Option (((Int) ⊕ (cC))):=λa=>(bif (decide (a<(p.Pipes.length:Int))) then (bif ((decide ((0:Int)<=a))&&(decide (a<(p.Pipes.length:Int)))) then (bif ((decide ((ix p.Pipes a)<0))||(decide ((100:Int)<(ix p.Pipes a)))) then ((nu 8 a).bind λb=>(Option.map Sum.inr (some (b)))) else (some (Sum.inl ((i64.wrap (a+1)))))) else none) else (Option.map Sum.inr (dE (jf p) (0))))
def qj (p:cy):Option (cC):=(bif ((decide ((1000:Int)<(p.Code.length:Int)))||(decide ((20:Int)<(p.Pipes.length:Int)))) then ((nu 2 0).bind λb=>(some (b))) else (bif ((decide ((min (min p.Cells p.Locks) p.Groups)<0))||(decide ((20:Int)<(max (max p.Cells p.Locks) p.Groups)))) then ((nu 3 0).bind λa=>(some (a))) else (dE (md p) (0))))
def ph (a b:Int):Option (cC):=(some ((cC.mk a b)))
def ke (p:cy) (c:List bV):Int×(List cQ)->Option (((Int×List cQ) ⊕ ((List Int)×List cq×List bV×List Int×List cQ×List dh×List cX))):=λ(a,b)=>(bif (decide (a<(p.Pipes.length:Int))) then (bif ((decide ((0:Int)<=a))&&(decide (a<(p.Pipes.length:Int)))) then (bif (decide ((b++([(cQ.mk (ix p.Pipes a) [] false [] [])]:List cQ)).length*88<=140737488355328)) then (some (Sum.inl ((i64.wrap (a+1)),(b++([(cQ.mk (ix p.Pipes a) [] false [] [])]:List cQ))))) else none) else none) else (Option.map Sum.inr (bif (decide (0<=p.Locks/\p.Locks<=4611686018427387904/\(40:Int)*p.Locks<=140737488355328)) then (bif (decide (0<=p.Groups/\p.Groups<=4611686018427387904/\(32:Int)*p.Groups<=140737488355328)) then (some ((List.replicate (p.Cells).toNat (default:Int)),([((cq.mk 0 (default:(dm 8)) 0 0 0):cq)]:List cq),c,([1]:List Int),b,(List.replicate (p.Locks).toNat (default:dh)),(List.replicate (p.Groups).toNat (default:cX)))) else none) else none)))
def kf (p:cy) (c:Int):Int×(List bV)->Option (((Int×List bV) ⊕ ((List Int)×List cq×List bV×List Int×List cQ×List dh×List cX))):=λ(b,a)=>(bif (decide (b<c)) then (bif (decide ((a++[((bV.mk 0 0 []):bV)]).length*8<=140737488355328)) then (some (Sum.inl ((i64.wrap (b+1)),(a++[((bV.mk 0 0 []):bV)])))) else none) else (Option.map Sum.inr (dE (ke p a) (0,[]))))
def lR (p:cy) (a:Int):Option ((List Int)×List cq×List bV×List Int×List cQ×List dh×List cX):=(bif (decide (0<=p.Cells/\p.Cells<=4611686018427387904/\(8:Int)*p.Cells<=140737488355328)) then (dE (kf p a) (0,[])) else none)
def iB (m:(List (PT cq))) (t:Int):Option (cq):=(bif ((decide ((0:Int)<=(i64.wrap (t-1))))&&(decide ((i64.wrap (t-1))<(m.length:Int)))) then (some ((ix m (i64.wrap (t-1))).x)) else none)
def nI (x:Int):Option (Bool):=(some ((x != x)))
def kS (x y:Int):Option (Int):=((nI x).bind λb=>((nI y).bind λa=>(bif b then (bif a then (some (0)) else (some ((-1)))) else (bif a then (some (1)) else (bif (decide (x<y)) then (some ((-1))) else (bif (decide (y<x)) then (some (1)) else (some (0))))))))
def pA (b:List Int):Int->Option (((Int) ⊕ (Int))):=λa=>(bif (decide (a<(b.length:Int))) then (bif ((decide ((0:Int)<=a))&&(decide (a<(b.length:Int)))) then (bif ((ix b a) != 0) then (Option.map Sum.inr (some ((ix b a)))) else (some (Sum.inl ((i64.wrap (a+1)))))) else none) else (Option.map Sum.inr (some (0))))
def qk (a:List Int):Option (Int):=(dE (pA a) (0))
def eG (j b:Int) (i:(List (PT cq))):Option (Int):=((iB i j).bind λd=>((iB i b).bind λe=>((kS d.when e.when).bind λc=>((iB i j).bind λa=>((iB i b).bind λh=>((kS a.seq h.seq).bind λg=>((qk ([c,g]:List Int)).bind λf=>(some (f)))))))))
def kg (c0:List Int) (ts:(List (PT cq))):Option (List Int):=open Classical in if (∀ a b:Int,1<=a/\a<=((((c0.foldl max 0).toNat):Nat):Int)->1<=b/\b<=((((c0.foldl max 0).toNat):Nat):Int)->(eG a b ts).isSome=true)/\Go.Sort.SWO (Go.Proofs.ltOf λ(a b:Rg ((c0.foldl max 0).toNat))=>(λa b:Int=>(eG a b ts).getD 0) a.1 b.1)/\(∀ x∈c0,1<=x/\x<=((((c0.foldl max 0).toNat):Nat):Int))/\c0.length<4611686018427387904 then some (oO ((c0.foldl max 0).toNat) (λa b:Int=>(eG a b ts).getD 0) c0) else none
def iO (b:Int) (c:List cq) (a:List Int):Option (((Int×List cq×List Int) ⊕ (Int×List Int×List cq))):=(some (Sum.inl ((i64.wrap (b+1)),c,a)))
def j8 (c:Int) (g:List cq) (f:List Int):Int×List cq×(List Int)->Option (((Int×List cq×List Int) ⊕ (Int×List Int×List cq))):=λ(a,b,d)=>(bif (decide (a<(g.length:Int))) then (bif ((decide ((0:Int)<=a))&&(decide (a<(b.length:Int)))) then (bif (((ix b a).state==2)&&(decide ((ix b a).when<=(i64.wrap (c+1))))) then (bif (decide ((d++([(i64.wrap (a+1))]:List Int)).length*8<=140737488355328)) then (iO a (b.set a.toNat ((cq.mk (ix b a).pc (ix b a).r 0 (ix b a).when (ix b a).seq):cq)) (d++([(i64.wrap (a+1))]:List Int))) else none) else (iO a b d)) else none) else (Option.map Sum.inr ((kg d (b.map PT.mk)).bind λe=>(bif (decide (e.length=d.length)) then (bif (decide ((f++e).length*8<=140737488355328)) then (some ((i64.wrap (c+1)),(f++e),b)) else none) else none))))
def jS (a:Int) (b:List cq) (c:List Int):Option (Int×List Int×List cq):=(dE (j8 a b c) (0,b,[]))
def ie (a b:Int):Option (cC):=(some ((cC.mk a b)))
def me (q:fx):Int×(List (Int×Int))->Option (((Int×(List (Int×Int))) ⊕ (cC))):=λ(a,b)=>(bif (decide (a<(q.List.length:Int))) then (bif ((decide ((0:Int)<=a))&&(decide (a<(q.List.length:Int)))) then (bif (decide ((ix q.List a)<1)) then ((ie 3 (i64.wrap (a+1))).bind λc=>(Option.map Sum.inr (some (c)))) else (bif (decide ((0:Int)<(fU b (ix q.List a)))) then ((ie 10 (i64.wrap (a+1))).bind λd=>(Option.map Sum.inr (some (d)))) else (some (Sum.inl ((i64.wrap (a+1)),(iw b (ix q.List a) 1)))))) else none) else (Option.map Sum.inr (some ((cC.mk 0 0)))))
def nJ (q:fx) (a:(List (Int×Int))):Option (cC):=(dE (me q) (0,a))
def kA (q:fx):Option (cC):=(bif (decide ((256:Int)<(q.List.length:Int))) then ((ie 2 0).bind λb=>(some (b))) else (bif (decide (q.Next<0)) then ((ie 3 0).bind λa=>(some (a))) else (bif (decide ((0:Int)<q.Next)) then (nJ q (iw [] q.Next 1)) else (nJ q []))))
def fe (s:List Int):Option ((List Int)):=(bif (decide ((([]:List Int)++s).length*8<=140737488355328)) then (some ((([]:List Int)++s))) else none)
def kB (q:fx):Option ((List Int)):=((fe q.List).bind λa=>(some (a)))
def iY (q:fx):Option (Int×Int×cC×List Int):=((kA q).bind λb=>(bif (b.Code != 0) then (some (0,0,b,[])) else ((kB q).bind λa=>(bif (decide ((0:Int)<q.Next)) then (some (0,q.Next,(cC.mk 0 0),a)) else (bif ((a.length:Int)==0) then ((ie 6 0).bind λd=>(some (0,0,d,[]))) else (bif (decide ((0:Int)<(a.length:Int))) then (bif (decide ((1:Int)<=(a.length:Int))) then ((fe (cut a (1:Int) (a.length:Int))).bind λc=>(some (q.Next,(ix a (0:Int)),(cC.mk 0 0),c))) else none) else none))))))
def fK (c:Int) (b:cC) (a:List bV):Option (Bool×List bV):=(bif (decide (0<=c/\c<(a.length:Int))) then (some ((b.Code==0),a)) else none)
def dT (b:Int) (c:List bV):Option (Bool×List bV):=(bif (decide (0<=b/\b<(c.length:Int))) then ((iY (fx.mk (ix c b).Ring_Next (ix c b).Ring_List)).bind λa=>((λz0:List bV=>(bif (a.2.2.1.Code==0) then (fK b a.2.2.1 (z0.set b.toNat ((bV.mk a.2.1 (ix z0 b).Ring_Next (ix z0 b).Ring_List):bV))) else (fK b a.2.2.1 c))) (c.set b.toNat ((bV.mk (ix c b).now a.1 a.2.2.2):bV)))) else none)
def mM (q:fx):Option ((List Int)):=(bif (decide ((0:Int)<q.Next)) then (bif (decide ((([q.Next]:List Int)++q.List).length*8<=140737488355328)) then (some ((([q.Next]:List Int)++q.List))) else none) else ((fe q.List).bind λa=>(some (a))))
def nv (b:List Int):Int×(List (Int×Int))->Option (((Int×(List (Int×Int))) ⊕ (Int))):=λ(a,c)=>(bif (decide (a<(b.length:Int))) then (bif ((decide ((0:Int)<=a))&&(decide (a<(b.length:Int)))) then (bif (decide ((0:Int)<(fU c (ix b a)))) then (Option.map Sum.inr (some (a))) else (some (Sum.inl ((i64.wrap (a+1)),(iw c (ix b a) 1))))) else none) else (Option.map Sum.inr (some ((-1)))))
def nw (d b:List Int):Int×(List (Int×Int))->Option (((Int×(List (Int×Int))) ⊕ (Int))):=λ(a,c)=>(bif (decide (a<(d.length:Int))) then (bif ((decide ((0:Int)<=a))&&(decide (a<(d.length:Int)))) then (some (Sum.inl ((i64.wrap (a+1)),(iw c (ix d a) 1)))) else none) else (Option.map Sum.inr (dE (nv b) (0,c))))
def mf (a b:List Int):Option (Int):=(dE (nw a b) (0,[]))
def ko (q:fx) (a:Int) (c:List Int):Int->Option (((Int) ⊕ (Int×cC×List Int×List Int))):=λb=>(bif (decide (b<(c.length:Int))) then (bif ((decide ((0:Int)<=b))&&(decide (b<(c.length:Int)))) then (bif (decide ((ix c b)<1)) then ((ie 5 b).bind λh=>(Option.map Sum.inr (some (0,h,[],[])))) else (some (Sum.inl ((i64.wrap (b+1)))))) else none) else (Option.map Sum.inr ((mM q).bind λi=>((mf i c).bind λe=>(bif (decide ((0:Int)<=e)) then ((ie 8 e).bind λj=>(some (0,j,[],[]))) else (bif ((decide (a<1))||(decide ((64:Int)<a))) then ((ie 3 (-1)).bind λg=>(some (0,g,[],[]))) else (bif (a != 0) then ((kB q).bind λd=>(bif ((decide ((0:Int)<=(min (min (min (i64.wrap ((i64.wrap (Int.tdiv (c.length:Int) a))+1)) (c.length:Int)) 128) (i64.wrap ((256:Int)-(q.List.length:Int))))))&&(decide ((min (min (min (i64.wrap ((i64.wrap (Int.tdiv (c.length:Int) a))+1)) (c.length:Int)) 128) (i64.wrap ((256:Int)-(q.List.length:Int))))<=(c.length:Int)))) then (bif (decide ((d++(cut c (0:Int) (min (min (min (i64.wrap ((i64.wrap (Int.tdiv (c.length:Int) a))+1)) (c.length:Int)) 128) (i64.wrap ((256:Int)-(q.List.length:Int)))))).length*8<=140737488355328)) then (bif ((decide ((0:Int)<=(min (min (min (i64.wrap ((i64.wrap (Int.tdiv (c.length:Int) a))+1)) (c.length:Int)) 128) (i64.wrap ((256:Int)-(q.List.length:Int))))))&&(decide ((min (min (min (i64.wrap ((i64.wrap (Int.tdiv (c.length:Int) a))+1)) (c.length:Int)) 128) (i64.wrap ((256:Int)-(q.List.length:Int))))<=(c.length:Int)))) then ((fe (cut c (min (min (min (i64.wrap ((i64.wrap (Int.tdiv (c.length:Int) a))+1)) (c.length:Int)) 128) (i64.wrap ((256:Int)-(q.List.length:Int)))) (c.length:Int))).bind λf=>(some (q.Next,(cC.mk 0 0),(d++(cut c (0:Int) (min (min (min (i64.wrap ((i64.wrap (Int.tdiv (c.length:Int) a))+1)) (c.length:Int)) 128) (i64.wrap ((256:Int)-(q.List.length:Int)))))),f))) else none) else none) else none)) else none)))))))
def jg (q:fx) (b:Int) (d:List Int):Option (Int×cC×List Int×List Int):=((kA q).bind λa=>(bif (a.Code != 0) then (some (0,a,[],[])) else (bif (decide ((5000:Int)<(d.length:Int))) then ((ie 2 (-1)).bind λc=>(some (0,c,[],[]))) else (dE (ko q b d) (0)))))
def jh (c f:fx) (i:Bool):Int->Option (((Int) ⊕ (Int×Int×Int×cC×List Int×List Int))):=λd=>(bif (decide (d<((([c,f]:List fx).length:Nat):Int))) then (bif ((decide ((0:Int)<=d))&&(decide (d<((([c,f]:List fx).length:Nat):Int)))) then ((kA (ix ([c,f]:List fx) d)).bind λe=>(bif (e.Code != 0) then (Option.map Sum.inr (some (0,0,0,e,[],[]))) else (some (Sum.inl ((i64.wrap (d+1))))))) else none) else (Option.map Sum.inr ((mM c).bind λl=>((mM f).bind λk=>((mf l k).bind λj=>(bif (decide ((0:Int)<=j)) then ((ie 8 0).bind λh=>(some (0,0,0,h,[],[]))) else ((kB c).bind λa=>((kB f).bind λb=>(bif ((a.length:Int)==0) then (bif ((!i)||((c.Next==0)||((i64.wrap ((256:Int)-(b.length:Int)))==0))) then (some (c.Next,f.Next,0,(cC.mk 0 0),a,b)) else (bif (decide ((b++([c.Next]:List Int)).length*8<=140737488355328)) then (some (0,f.Next,1,(cC.mk 0 0),a,(b++([c.Next]:List Int)))) else none)) else (bif ((decide ((0:Int)<=(min (i64.wrap ((a.length:Int)-(i64.wrap (Int.tdiv (a.length:Int) 2)))) (i64.wrap ((256:Int)-(b.length:Int))))))&&(decide ((min (i64.wrap ((a.length:Int)-(i64.wrap (Int.tdiv (a.length:Int) 2)))) (i64.wrap ((256:Int)-(b.length:Int))))<=(a.length:Int)))) then (bif (decide ((b++(cut a (0:Int) (min (i64.wrap ((a.length:Int)-(i64.wrap (Int.tdiv (a.length:Int) 2)))) (i64.wrap ((256:Int)-(b.length:Int)))))).length*8<=140737488355328)) then (bif ((decide ((0:Int)<=(min (i64.wrap ((a.length:Int)-(i64.wrap (Int.tdiv (a.length:Int) 2)))) (i64.wrap ((256:Int)-(b.length:Int))))))&&(decide ((min (i64.wrap ((a.length:Int)-(i64.wrap (Int.tdiv (a.length:Int) 2)))) (i64.wrap ((256:Int)-(b.length:Int))))<=(a.length:Int)))) then ((fe (cut a (min (i64.wrap ((a.length:Int)-(i64.wrap (Int.tdiv (a.length:Int) 2)))) (i64.wrap ((256:Int)-(b.length:Int)))) (a.length:Int))).bind λg=>(some (c.Next,f.Next,(min (i64.wrap ((a.length:Int)-(i64.wrap (Int.tdiv (a.length:Int) 2)))) (i64.wrap ((256:Int)-(b.length:Int)))),(cC.mk 0 0),g,(b++(cut a (0:Int) (min (i64.wrap ((a.length:Int)-(i64.wrap (Int.tdiv (a.length:Int) 2)))) (i64.wrap ((256:Int)-(b.length:Int))))))))) else none) else none) else none))))))))))
def ny (a c:fx) (b:Bool):Option (Int×Int×Int×cC×List Int×List Int):=(dE (jh a c b) (0))
def j9 (p:Int) (e:List Int):Int×(List bV)->Option (((Int×List bV) ⊕ (Bool×List Int×List bV))):=λ(d,a)=>(bif (decide (0<=p/\p<(a.length:Int))) then (bif (decide (d<(a.length:Int))) then (bif ((a.length:Int) != 0) then (bif ((decide ((0:Int)<=(Int.tmod (i64.wrap (p+d)) (a.length:Int))))&&(decide ((Int.tmod (i64.wrap (p+d)) (a.length:Int))<(a.length:Int)))) then ((ny (fx.mk (ix a (Int.tmod (i64.wrap (p+d)) (a.length:Int))).Ring_Next (ix a (Int.tmod (i64.wrap (p+d)) (a.length:Int))).Ring_List) (fx.mk (ix a p).Ring_Next (ix a p).Ring_List) true).bind λb=>(bif (decide ((0:Int)<b.2.2.1)) then ((λz0:List bV=>((λz1:List bV=>((dT p z1).bind λc=>(bif (decide (c.2.length=z1.length)) then (bif (decide (0<=p/\p<(c.2.length:Int))) then (Option.map Sum.inr (some (c.1,e,c.2))) else none) else none))) (z0.set p.toNat ((bV.mk (ix z0 p).now b.2.1 b.2.2.2.2.2):bV)))) (a.set (Int.tmod (i64.wrap (p+d)) (a.length:Int)).toNat ((bV.mk (ix a (Int.tmod (i64.wrap (p+d)) (a.length:Int))).now b.1 b.2.2.2.2.1):bV))) else (some (Sum.inl ((i64.wrap (d+1)),a))))) else none) else none) else (Option.map Sum.inr (some (false,e,a)))) else none)
def gp (p:Int) (e:List bV) (d:List Int):Option (Bool×List Int×List bV):=(bif ((decide ((0:Int)<=p))&&(decide (p<(e.length:Int)))) then ((dT p e).bind λa=>(bif (decide (a.2.length=e.length)) then (bif (decide (0<=p/\p<(a.2.length:Int))) then (bif a.1 then (some (true,d,a.2)) else (bif (decide ((0:Int)<(d.length:Int))) then ((jg (fx.mk (ix a.2 p).Ring_Next (ix a.2 p).Ring_List) (a.2.length:Int) d).bind λb=>((λz0:List bV=>((dT p z0).bind λc=>(bif (decide (c.2.length=z0.length)) then (bif (decide (0<=p/\p<(c.2.length:Int))) then (some (c.1,b.2.2.2,c.2)) else none) else none))) (a.2.set p.toNat ((bV.mk (ix a.2 p).now b.1 b.2.2.1):bV)))) else (dE (j9 p d) (1,a.2)))) else none) else none)) else none)
def dK (t:Int) (a:List cq):Option (Int):=(bif ((decide ((0:Int)<=(i64.wrap (t-1))))&&(decide ((i64.wrap (t-1))<(a.length:Int)))) then (some ((i64.wrap (t-1)))) else none)
def oP (a:Int):Option (Bool):=(some (((decide ((1:Int)<=a))&&(decide (a<=7)))))
def gF (b:Int) (a:List cq):Option (Int×List cq):=(some ((i64.wrap (b+1)),a))
def mg (c:df) (d b:Int) (a:List cq):Option (Int×List cq):=(bif (decide (0<=b/\b<(a.length:Int))) then (bif (c.Op==1) then (bif ((decide ((0:Int)<=c.A))&&(decide (c.A<((8:Nat):Int)))) then (gF d (a.set b.toNat ((cq.mk (ix a b).pc ((ix a b).r.set c.A c.B) (ix a b).state (ix a b).when (ix a b).seq):cq))) else none) else (bif (c.Op==2) then (bif ((decide ((0:Int)<=c.B))&&(decide (c.B<((8:Nat):Int)))) then (bif ((decide ((0:Int)<=c.A))&&(decide (c.A<((8:Nat):Int)))) then (gF d (a.set b.toNat ((cq.mk (ix a b).pc ((ix a b).r.set c.A ((ix a b).r.get c.B)) (ix a b).state (ix a b).when (ix a b).seq):cq))) else none) else none) else (bif (c.Op==3) then (bif ((decide ((0:Int)<=c.A))&&(decide (c.A<((8:Nat):Int)))) then (bif ((decide ((0:Int)<=c.B))&&(decide (c.B<((8:Nat):Int)))) then (gF d (a.set b.toNat ((cq.mk (ix a b).pc ((ix a b).r.set c.A (i64.wrap (((ix a b).r.get c.A)+((ix a b).r.get c.B)))) (ix a b).state (ix a b).when (ix a b).seq):cq))) else none) else none) else (bif (c.Op==4) then (bif ((decide ((0:Int)<=c.A))&&(decide (c.A<((8:Nat):Int)))) then (bif ((decide ((0:Int)<=c.B))&&(decide (c.B<((8:Nat):Int)))) then (gF d (a.set b.toNat ((cq.mk (ix a b).pc ((ix a b).r.set c.A (i64.wrap (((ix a b).r.get c.A)-((ix a b).r.get c.B)))) (ix a b).state (ix a b).when (ix a b).seq):cq))) else none) else none) else (bif (c.Op==5) then (bif ((decide ((0:Int)<=c.A))&&(decide (c.A<((8:Nat):Int)))) then (bif ((decide ((0:Int)<=c.B))&&(decide (c.B<((8:Nat):Int)))) then (gF d (a.set b.toNat ((cq.mk (ix a b).pc ((ix a b).r.set c.A (mU [(true,1)] (decide (((ix a b).r.get c.A)<((ix a b).r.get c.B))))) (ix a b).state (ix a b).when (ix a b).seq):cq))) else none) else none) else (bif (c.Op==6) then (some (c.A,a)) else (bif (c.Op==7) then (bif ((decide ((0:Int)<=c.A))&&(decide (c.A<((8:Nat):Int)))) then (bif (((ix a b).r.get c.A)==0) then (some (c.B,a)) else (gF d a)) else none) else (gF d a)))))))) else none)
def dp (t c b a:Int) (d:List cz):Option ((List cz)):=(bif (decide ((d++([(cz.mk t c b a)]:List cz)).length*32<=140737488355328)) then (some ((d++([(cz.mk t c b a)]:List cz)))) else none)
def i0 (c t:Int) (b:List cq) (d:List bV) (e:List Int):Option (Bool×List Int×List cq×List bV):=(bif (decide (0<=c/\c<(d.length:Int))) then ((dK t b).bind λa=>(bif (decide (0<=a/\a<(b.length:Int))) then (bif (decide ((e++([t]:List Int)).length*8<=140737488355328)) then (some (false,(e++([t]:List Int)),(b.set a.toNat ((cq.mk (i64.wrap ((ix b a).pc+1)) (ix b a).r (ix b a).state (ix b a).when (ix b a).seq):cq)),(d.set c.toNat ((bV.mk 0 (ix d c).Ring_Next (ix d c).Ring_List):bV)))) else none) else none)) else none)
def i4 (s:List Int) (v:Int):Int->Option (((Int) ⊕ (Int))):=λa=>(bif (decide (a<(s.length:Int))) then (bif ((decide ((0:Int)<=a))&&(decide (a<(s.length:Int)))) then (bif (v==(ix s a)) then (Option.map Sum.inr (some (a))) else (some (Sum.inl ((i64.wrap (a+1)))))) else none) else (Option.map Sum.inr (some ((-1)))))
def nA (s:List Int) (v:Int):Option (Int):=(dE (i4 s v) (0))
def ic (s:List Int) (v:Int):Option (Bool):=((nA s v).bind λa=>(some ((decide ((0:Int)<=a)))))
def ra (t:Int) (b:List Int):Option ((List Int)×List Int):=(bif (decide ((b.length:Int)<256)) then (bif (decide ((b++([t]:List Int)).length*8<=140737488355328)) then (some ([],(b++([t]:List Int)))) else none) else (bif (decide ((128:Int)<=(b.length:Int))) then ((fe (cut b (0:Int) (128:Int))).bind λa=>(bif (decide ((a++([t]:List Int)).length*8<=140737488355328)) then (bif (decide ((128:Int)<=(b.length:Int))) then ((fe (cut b (128:Int) (b.length:Int))).bind λc=>(some ((a++([t]:List Int)),c))) else none) else none)) else none))
def pj (c a:Int) (d:List Int):Option (Int×cC×List Int×List Int):=((ra c d).bind λb=>(some (a,(cC.mk 0 0),b.2,b.1)))
def qQ (q:fx) (a:Int) (g:Bool):Option (Int×cC×List Int×List Int):=((kA q).bind λc=>(bif (c.Code != 0) then (some (0,c,[],[])) else (bif (decide (a<1)) then ((ie 3 (-1)).bind λf=>(some (0,f,[],[]))) else ((mM q).bind λh=>((ic h a).bind λd=>(bif d then ((ie 10 (-1)).bind λe=>(some (0,e,[],[]))) else ((kB q).bind λb=>(bif g then (bif (q.Next==0) then (some (a,(cC.mk 0 0),b,[])) else (pj q.Next a b)) else (pj a q.Next b)))))))))
def i5 (d t:Int) (c:List cq) (e:List bV) (f:List Int):Option ((List Int)×List cq×List bV):=(bif (decide (0<=d/\d<(e.length:Int))) then ((qQ (fx.mk (ix e d).Ring_Next (ix e d).Ring_List) t true).bind λb=>(bif (decide ((f++b.2.2.2).length*8<=140737488355328)) then ((dK t c).bind λa=>(bif (decide (0<=a/\a<(c.length:Int))) then (some ((f++b.2.2.2),(c.set a.toNat ((cq.mk (ix c a).pc (ix c a).r 0 (ix c a).when (ix c a).seq):cq)),(e.set d.toNat ((bV.mk (ix e d).now b.1 b.2.2.1):bV)))) else none)) else none)) else none)
def ji (a b:Int):Option (cC):=(some ((cC.mk a b)))
def pB (l:List cH):Int×(List (Int×Int))->Option (((Int×(List (Int×Int))) ⊕ (Int×(List (Int×Int))))):=λ(a,b)=>(bif (decide (a<(l.length:Int))) then (bif ((decide ((0:Int)<=a))&&(decide (a<(l.length:Int)))) then (bif ((decide ((ix l a).Task<1))||(decide ((ix l a).Case<0))) then (Option.map Sum.inr (some (3,b))) else (bif (decide ((0:Int)<(fU b (ix l a).Task))) then (Option.map Sum.inr (some (10,b))) else (some (Sum.inl ((i64.wrap (a+1)),(iw b (ix l a).Task 1)))))) else none) else (Option.map Sum.inr (some (0,b))))
def ql (l:List cH) (a:(List (Int×Int))):Option (Int×(List (Int×Int))):=(dE (pB l) (0,a))
def nK (p:cQ):Int->Option (((Int) ⊕ (cC))):=λa=>(bif (decide (a<(p.Getters.length:Int))) then (bif ((decide ((0:Int)<=a))&&(decide (a<(p.Getters.length:Int)))) then (bif ((ix p.Getters a).Value != 0) then ((ji 5 2).bind λb=>(Option.map Sum.inr (some (b)))) else (some (Sum.inl ((i64.wrap (a+1)))))) else none) else (Option.map Sum.inr (some ((cC.mk 0 0)))))
def oQ (p:cQ):Option (cC):=(bif (decide ((5000:Int)<(i64.wrap ((i64.wrap ((p.Items.length:Int)+(p.Senders.length:Int)))+(p.Getters.length:Int))))) then ((ji 2 0).bind λh=>(some (h))) else (bif ((decide (p.Cap<0))||(decide ((1000:Int)<p.Cap))) then ((ji 3 0).bind λe=>(some (e))) else (bif (decide (p.Cap<(p.Items.length:Int))) then ((ji 8 0).bind λf=>(some (f))) else (bif (bif (decide ((0:Int)<(p.Senders.length:Int))) then (p.Closed||((decide ((p.Items.length:Int)<p.Cap))||((decide ((0:Int)<(p.Getters.length:Int)))||((decide ((0:Int)<(p.Getters.length:Int)))&&(p.Closed||(decide ((0:Int)<(p.Items.length:Int)))))))) else ((decide ((0:Int)<(p.Getters.length:Int)))&&(p.Closed||(decide ((0:Int)<(p.Items.length:Int)))))) then ((ji 5 0).bind λg=>(some (g))) else ((ql p.Senders []).bind λa=>(bif (a.1 != 0) then ((ji a.1 1).bind λc=>(some (c))) else ((ql p.Getters a.2).bind λb=>(bif (b.1 != 0) then ((ji b.1 2).bind λd=>(some (d))) else (dE (nK p) (0))))))))))
def qm (x:cH) (a:Int):Option (Bool):=(some ((x.Task==a)))
def iC (s:List cH) (f:Int):Int->Option (((Int) ⊕ (Int))):=λa=>(bif (decide (a<(s.length:Int))) then (bif ((decide ((0:Int)<=a))&&(decide (a<(s.length:Int)))) then ((qm (ix s a) f).bind λb=>(bif b then (Option.map Sum.inr (some (a))) else (some (Sum.inl ((i64.wrap (a+1))))))) else none) else (Option.map Sum.inr (some ((-1)))))
def kT (s:List cH) (f:Int):Option (Int):=(dE (iC s f) (0))
def gJ (s:List cH) (f:Int):Option (Bool):=((kT s f).bind λa=>(some ((decide ((0:Int)<=a)))))
def nL (a:Bool):Option (Bool):=(some (a))
def se (p:cQ) (a:Int):Option (Bool):=((gJ p.Senders a).bind λb=>(bif b then (nL true) else ((gJ p.Getters a).bind λc=>(nL c))))
def oR (p:cQ) (a:Int):Option (cC):=((oQ p).bind λb=>(bif (b.Code != 0) then (some (b)) else (bif (decide (a<1)) then ((ji 3 (-1)).bind λd=>(some (d))) else ((se p a).bind λf=>(bif f then ((ji 10 (-1)).bind λe=>(some (e))) else (bif ((i64.wrap ((i64.wrap ((p.Items.length:Int)+(p.Senders.length:Int)))+(p.Getters.length:Int)))==5000) then ((ji 9 0).bind λc=>(some (c))) else (some ((cC.mk 0 0)))))))))
def j5 (s:List cH):Option ((List cH)):=(bif (decide ((([]:List cH)++s).length*24<=140737488355328)) then (some ((([]:List cH)++s))) else none)
def ow (p:cQ):Option ((List Int)×List cH×List cH):=((fe p.Items).bind λc=>((j5 p.Senders).bind λb=>((j5 p.Getters).bind λa=>(some (c,b,a)))))
def sf (x:cH) (c:Int) (a:Bool) (d:List Int) (b:List cH):Option (Bool×Bool×Int×List dc×List Int×List cH):=(bif a then (some (true,true,x.Case,[],d,b)) else (bif (decide ((0:Int)<(b.length:Int))) then (bif (decide ((0:Int)<(b.length:Int))) then (bif (decide ((1:Int)<=(b.length:Int))) then (some (true,false,x.Case,([(dc.mk (ix b (0:Int)).Task (ix b (0:Int)).Case x.Value true false)]:List dc),d,(cut b (1:Int) (b.length:Int)))) else none) else none) else (bif (decide ((d.length:Int)<c)) then (bif (decide ((d++([x.Value]:List Int)).length*8<=140737488355328)) then (some (true,false,x.Case,[],(d++([x.Value]:List Int)),b)) else none) else (some (false,false,0,[],d,b)))))
def oz (p:cQ) (c a:Bool) (b:Int) (e:List Int) (f g:List cH) (d:List dc):Option (Int×Bool×Bool×Bool×Int×cC×List Int×List cH×List cH×List dc):=(some (p.Cap,p.Closed,c,a,b,(cC.mk 0 0),e,f,g,d))
def mB (p:cQ) (c d:Int) (f:Bool):Option (Int×Bool×Bool×Bool×Int×cC×List Int×List cH×List cH×List dc):=((oR p c).bind λe=>(bif (e.Code != 0) then (some (0,false,false,false,0,e,[],[],[],[])) else ((ow p).bind λb=>((sf (cH.mk c 0 d) p.Cap p.Closed b.1 b.2.2).bind λa=>(bif ((!a.1)&&(!f)) then (bif (decide ((b.2.1++([(cH.mk c 0 d)]:List cH)).length*24<=140737488355328)) then (oz p a.1 a.2.1 a.2.2.1 a.2.2.2.2.1 (b.2.1++([(cH.mk c 0 d)]:List cH)) a.2.2.2.2.2 a.2.2.2.1) else none) else (oz p a.1 a.2.1 a.2.2.1 a.2.2.2.2.1 b.2.1 a.2.2.2.2.2 a.2.2.2.1))))))
def dG (t b:Int) (c:List cz):Option ((List cz)):=((dp t 22 b 0 c).bind λa=>(some (a)))
def fY (t:Int) (b:List cq):Option (Bool×List cq):=((dK t b).bind λa=>(bif (decide (0<=a/\a<(b.length:Int))) then (some (false,(b.set a.toNat ((cq.mk (ix b a).pc (ix b a).r 1 (ix b a).when (ix b a).seq):cq)))) else none))
def gD (t:Int) (d:df) (c:Int) (g:Bool) (f:List cz) (b:List cq):Option ((List cz)×List cq):=((dK t b).bind λa=>(bif (decide (0<=a/\a<(b.length:Int))) then (bif ((decide ((0:Int)<=d.A))&&(decide (d.A<((8:Nat):Int)))) then ((dp t 15 d.B c f).bind λe=>((λz0:List cq=>(some (e,(z0.set a.toNat ((cq.mk (ix z0 a).pc ((ix z0 a).r.set (7:Int) (mU [(true,1)] g)) (ix z0 a).state (ix z0 a).when (ix z0 a).seq):cq))))) (b.set a.toNat ((cq.mk (ix b a).pc ((ix b a).r.set d.A c) (ix b a).state (ix b a).when (ix b a).seq):cq)))) else none) else none))
def fV (d t:Int) (c:List cq) (e:List bV) (f:List Int):Option ((List Int)×List cq×List bV):=(bif (decide (0<=d/\d<(e.length:Int))) then ((dK t c).bind λa=>(bif (decide (0<=a/\a<(c.length:Int))) then ((i5 d t (c.set a.toNat ((cq.mk (i64.wrap ((ix c a).pc+1)) (ix c a).r (ix c a).state (ix c a).when (ix c a).seq):cq)) e f).bind λb=>(bif (decide (0<=d/\d<(b.2.2.length:Int))) then (some (b.1,b.2.1,b.2.2)) else none)) else none)) else none)
def hM (g:Int) (l:List dc) (b:Int) (d:List bV) (f:List Int) (e:List cq) (c:List cz):Option (((Int×List cq×List bV×List cz×List Int) ⊕ (Int×List cz×List Int×List cq×List bV))):=(bif (decide (0<=g/\g<(d.length:Int))) then ((fV g (ix l b).Task e d f).bind λa=>(bif (decide (0<=g/\g<(a.2.2.length:Int))) then (some (Sum.inl ((i64.wrap (b+1)),a.2.1,a.2.2,c,a.1))) else none)) else none)
def eZ (n p:Int) (l:List dc) (a:List df) (e:Int):Int×List cq×List bV×List cz×(List Int)->Option (((Int×List cq×List bV×List cz×List Int) ⊕ (Int×List cz×List Int×List cq×List bV))):=λ(c,b,h,f,g)=>(bif (decide (0<=n/\n<(h.length:Int))) then (bif (decide (c<(l.length:Int))) then (bif ((decide ((0:Int)<=c))&&(decide (c<(l.length:Int)))) then ((dK (ix l c).Task b).bind λd=>(bif (decide (0<=d/\d<(b.length:Int))) then (bif ((decide ((0:Int)<=(ix b d).pc))&&(decide ((ix b d).pc<(a.length:Int)))) then (bif (ix l c).Panic then ((dG (ix l c).Task p f).bind λk=>(Option.map Sum.inr (some (2,k,g,b,h)))) else (bif ((ix a (ix b d).pc).Op==14) then ((dK (ix l c).Task b).bind λi=>(bif (decide (0<=i/\i<(b.length:Int))) then (bif ((decide ((0:Int)<=(ix a (ix b d).pc).B))&&(decide ((ix a (ix b d).pc).B<((8:Nat):Int)))) then ((dp (ix l c).Task (ix a (ix b d).pc).Op p ((ix b i).r.get (ix a (ix b d).pc).B) f).bind λm=>(hM n l c h g b m)) else none) else none)) else ((gD (ix l c).Task (ix a (ix b d).pc) (ix l c).Value (ix l c).Ok f b).bind λj=>(hM n l c h g j.2 j.1)))) else none) else none)) else none) else (Option.map Sum.inr (some (e,f,g,b,h)))) else none)
def dF (c p:Int) (l:List dc) (a:List df) (b:Int) (g:List cz) (f:List cq) (d:List bV) (e:List Int):Option (Int×List cz×List Int×List cq×List bV):=(bif (decide (0<=c/\c<(d.length:Int))) then (dE (eZ c p l a b) (0,f,d,g,e)) else none)
def lf (x:cH) (b:Bool) (a:List Int) (c:List cH) (d:List dc):Option (Bool×Bool×Int×Int×List dc×List Int×List cH):=(bif (decide ((0:Int)<(a.length:Int))) then (bif (decide ((0:Int)<(a.length:Int))) then (bif (decide ((1:Int)<=(a.length:Int))) then (some (true,true,(ix a (0:Int)),x.Case,d,(cut a (1:Int) (a.length:Int)),c)) else none) else none) else (bif b then (some (true,false,0,x.Case,[],a,c)) else (some (false,false,0,0,[],a,c))))
def sg (x:cH) (a:Bool) (c:List Int) (b:List cH):Option (Bool×Bool×Int×Int×List dc×List Int×List cH):=(bif (decide ((0:Int)<(b.length:Int))) then (bif (decide ((0:Int)<(b.length:Int))) then (bif (decide ((1:Int)<=(b.length:Int))) then (bif (decide ((c++([(ix b (0:Int)).Value]:List Int)).length*8<=140737488355328)) then (lf x a (c++([(ix b (0:Int)).Value]:List Int)) (cut b (1:Int) (b.length:Int)) ([(dc.mk (ix b (0:Int)).Task (ix b (0:Int)).Case 0 false false)]:List dc)) else none) else none) else none) else (lf x a c b []))
def pk (p:cQ) (c d:Bool) (a b:Int) (g:List Int) (e f:List cH) (h:List dc):Option (Int×Bool×Bool×Bool×Int×Int×cC×List Int×List cH×List cH×List dc):=(some (p.Cap,p.Closed,c,d,a,b,(cC.mk 0 0),g,e,f,h))
def lS (p:cQ) (c:Int) (e:Bool):Option (Int×Bool×Bool×Bool×Int×Int×cC×List Int×List cH×List cH×List dc):=((oR p c).bind λd=>(bif (d.Code != 0) then (some (0,false,false,false,0,0,d,[],[],[],[])) else ((ow p).bind λb=>((sg (cH.mk c 0 0) p.Closed b.1 b.2.1).bind λa=>(bif ((!a.1)&&(!e)) then (bif (decide ((b.2.2++([(cH.mk c 0 0)]:List cH)).length*24<=140737488355328)) then (pk p a.1 a.2.1 a.2.2.1 a.2.2.2.1 a.2.2.2.2.2.1 a.2.2.2.2.2.2 (b.2.2++([(cH.mk c 0 0)]:List cH)) a.2.2.2.2.1) else none) else (pk p a.1 a.2.1 a.2.2.1 a.2.2.2.1 a.2.2.2.2.2.1 a.2.2.2.2.2.2 b.2.2 a.2.2.2.2.1))))))
def m5 (c:List cH):Int×(List dc)->Option (((Int×List dc) ⊕ (Bool×List dc×Bool×List cH×List cH))):=λ(a,b)=>(bif (decide (a<(c.length:Int))) then (bif ((decide ((0:Int)<=a))&&(decide (a<(c.length:Int)))) then (bif (decide ((b++([(dc.mk (ix c a).Task (ix c a).Case 0 false true)]:List dc)).length*32<=140737488355328)) then (some (Sum.inl ((i64.wrap (a+1)),(b++([(dc.mk (ix c a).Task (ix c a).Case 0 false true)]:List dc))))) else none) else none) else (Option.map Sum.inr (some (false,b,true,[],[]))))
def m6 (d c:List cH):Int×(List dc)->Option (((Int×List dc) ⊕ (Bool×List dc×Bool×List cH×List cH))):=λ(a,b)=>(bif (decide (a<(c.length:Int))) then (bif ((decide ((0:Int)<=a))&&(decide (a<(c.length:Int)))) then (bif (decide ((b++([(dc.mk (ix c a).Task (ix c a).Case 0 false false)]:List dc)).length*32<=140737488355328)) then (some (Sum.inl ((i64.wrap (a+1)),(b++([(dc.mk (ix c a).Task (ix c a).Case 0 false false)]:List dc))))) else none) else none) else (Option.map Sum.inr (dE (m5 d) (0,b))))
def rc (a:Bool) (c b:List cH):Option (Bool×List dc×Bool×List cH×List cH):=(bif a then (some (true,[],a,c,b)) else (dE (m6 c b) (0,[])))
def oA (p:cQ):Option (Int×Bool×Bool×Bool×cC×List Int×List cH×List cH×List dc):=((oQ p).bind λc=>(bif (c.Code != 0) then (some (0,false,false,false,c,[],[],[],[])) else ((ow p).bind λb=>((rc p.Closed b.2.1 b.2.2).bind λa=>(some (p.Cap,a.2.2.1,true,a.1,(cC.mk 0 0),b.1,a.2.2.2.1,a.2.2.2.2,a.2.1))))))
def d4 (a:Int) (b:List cz) (c:List Int) (e:List cq) (f:List bV) (d:List cQ):Option (Bool×Int×List cz×List Int×List cq×List bV×List cQ):=(some (true,a,b,c,e,f,d))
def e_ (k t:Int) (i:df) (b:List df) (m:List cQ) (a:Int) (l:List cq) (f:List bV) (h:List cQ) (e:li) (j:List cz) (g:List Int):Option (Bool×Int×List cz×List Int×List cq×List bV×List cQ):=(bif (decide (0<=k/\k<(f.length:Int))) then ((gD t i e.Value e.Ok j l).bind λd=>(bif (decide ((0:Int)<(((ix m i.B).Items.length:Nat):Int))) then ((dF k i.B e.Wakes b a d.1 d.2 f g).bind λc=>(bif (decide (0<=k/\k<(c.2.2.2.2.length:Int))) then (d4 c.1 c.2.1 c.2.2.1 c.2.2.2.1 c.2.2.2.2 h) else none)) else (d4 a d.1 g d.2 f h))) else none)
def eD (m t:Int) (c:df) (d:List df) (a:Int) (s:List cz) (n:List cq) (p:List bV) (q:List Int) (k:List cQ):Option (Bool×Int×List cz×List Int×List cq×List bV×List cQ):=(bif (decide (0<=m/\m<(p.length:Int))) then ((dK t n).bind λj=>(bif (decide (0<=j/\j<(n.length:Int))) then (bif (c.Op==14) then (bif ((decide ((0:Int)<=c.A))&&(decide (c.A<(k.length:Int)))) then (bif ((decide ((0:Int)<=c.B))&&(decide (c.B<((8:Nat):Int)))) then ((mB (ix k c.A) t ((ix n j).r.get c.B) false).bind λe=>(bif ((decide ((0:Int)<=c.A))&&(decide (c.A<(k.length:Int)))) then ((λz1:List cQ=>(bif e.2.2.2.1 then ((dG t c.A s).bind λx=>(some (false,2,x,q,n,p,z1))) else (bif (!e.2.2.1) then ((fY t n).bind λl=>(bif (decide (0<=j/\j<(l.2.length:Int))) then (some (l.1,a,s,q,l.2,p,z1)) else none)) else ((dp t c.Op c.A ((ix n j).r.get c.B) s).bind λu=>((dF m c.A e.2.2.2.2.2.2.2.2.2 d a u n p q).bind λg=>(bif (decide (0<=m/\m<(g.2.2.2.2.length:Int))) then (d4 g.1 g.2.1 g.2.2.1 g.2.2.2.1 g.2.2.2.2 z1) else none)))))) (k.set c.A.toNat ((cQ.mk e.1 e.2.2.2.2.2.2.1 e.2.1 e.2.2.2.2.2.2.2.1 e.2.2.2.2.2.2.2.2.1):cQ))) else none)) else none) else none) else (bif (c.Op==15) then (bif ((decide ((0:Int)<=c.B))&&(decide (c.B<(k.length:Int)))) then (bif ((decide ((0:Int)<=c.B))&&(decide (c.B<(k.length:Int)))) then ((lS (ix k c.B) t false).bind λb=>(bif ((decide ((0:Int)<=c.B))&&(decide (c.B<(k.length:Int)))) then ((λz0:List cQ=>(bif (!b.2.2.1) then ((fY t n).bind λo=>(some (o.1,a,s,q,o.2,p,z0))) else (bif (!(decide ((0:Int)<(((ix k c.B).Items.length:Nat):Int)))) then ((dF m c.B b.2.2.2.2.2.2.2.2.2.2 d a s n p q).bind λh=>(bif (decide (0<=m/\m<(h.2.2.2.2.length:Int))) then (e_ m t c d k h.1 h.2.2.2.1 h.2.2.2.2 z0 (li.mk b.2.2.1 false b.2.2.2.1 b.2.2.2.2.1 b.2.2.2.2.2.1 b.2.2.2.2.2.2.2.2.2.2) h.2.1 h.2.2.1) else none)) else (e_ m t c d k a n p z0 (li.mk b.2.2.1 false b.2.2.2.1 b.2.2.2.2.1 b.2.2.2.2.2.1 b.2.2.2.2.2.2.2.2.2.2) s q)))) (k.set c.B.toNat ((cQ.mk b.1 b.2.2.2.2.2.2.2.1 b.2.1 b.2.2.2.2.2.2.2.2.1 b.2.2.2.2.2.2.2.2.2.1):cQ))) else none)) else none) else none) else (bif (c.Op==16) then (bif ((decide ((0:Int)<=c.A))&&(decide (c.A<(k.length:Int)))) then ((oA (ix k c.A)).bind λf=>(bif ((decide ((0:Int)<=c.A))&&(decide (c.A<(k.length:Int)))) then ((λz2:List cQ=>(bif f.2.2.2.1 then ((dG t c.A s).bind λw=>(some (false,2,w,q,n,p,z2))) else ((dp t c.Op c.A 0 s).bind λv=>((dF m c.A f.2.2.2.2.2.2.2.2 d a v n p q).bind λi=>(bif (decide (0<=m/\m<(i.2.2.2.2.length:Int))) then (d4 i.1 i.2.1 i.2.2.1 i.2.2.2.1 i.2.2.2.2 z2) else none))))) (k.set c.A.toNat ((cQ.mk f.1 f.2.2.2.2.2.1 f.2.1 f.2.2.2.2.2.2.1 f.2.2.2.2.2.2.2.1):cQ))) else none)) else none) else (d4 a s q n p k)))) else none)) else none)
def jT (a b:Int):Option (cC):=(some ((cC.mk a b)))
def nM (l:dh):Int×(List (Int×Int))->Option (((Int×(List (Int×Int))) ⊕ (cC))):=λ(a,b)=>(bif (decide (a<(l.Line.length:Int))) then (bif ((decide ((0:Int)<=a))&&(decide (a<(l.Line.length:Int)))) then (bif (decide ((ix l.Line a).Task<1)) then ((jT 3 (i64.wrap (a+1))).bind λd=>(Option.map Sum.inr (some (d)))) else (bif (decide ((0:Int)<(fU b (ix l.Line a).Task))) then ((jT 10 (i64.wrap (a+1))).bind λe=>(Option.map Sum.inr (some (e)))) else (bif ((ix l.Line a).N != 0) then ((jT 5 (i64.wrap (a+1))).bind λc=>(Option.map Sum.inr (some (c)))) else (some (Sum.inl ((i64.wrap (a+1)),(iw b (ix l.Line a).Task 1))))))) else none) else (Option.map Sum.inr (some ((cC.mk 0 0)))))
def oS (l:dh):Option (cC):=(bif (decide ((5000:Int)<(l.Line.length:Int))) then ((jT 2 0).bind λc=>(some (c))) else (bif ((decide (l.Readers<0))||(decide ((1000000000:Int)<l.Readers))) then ((jT 3 0).bind λb=>(some (b))) else (bif ((!((((l.Writer&&(!(decide ((0:Int)<l.Readers))))&&(decide ((0:Int)<(l.Line.length:Int))))&&(!l.Writer))&&(!(l.Readers==0))))||(decide ((0:Int)<(l.Line.length:Int)))) then (bif ((!((((!l.Writer)&&(decide ((0:Int)<(l.Line.length:Int))))&&(!l.Writer))&&(!(l.Readers==0))))||(decide ((0:Int)<(l.Line.length:Int)))) then (bif (bif l.Writer then ((decide ((0:Int)<l.Readers))||((decide ((0:Int)<(l.Line.length:Int)))&&((!l.Writer)&&((l.Readers==0)||(!(ix l.Line (0:Int)).Write))))) else ((decide ((0:Int)<(l.Line.length:Int)))&&((!l.Writer)&&((l.Readers==0)||(!(ix l.Line (0:Int)).Write))))) then ((jT 5 0).bind λa=>(some (a))) else (dE (nM l) (0,[]))) else none) else none)))
def qn (w:dQ) (a:Int):Option (Bool):=(some ((w.Task==a)))
def iD (s:List dQ) (f:Int):Int->Option (((Int) ⊕ (Int))):=λa=>(bif (decide (a<(s.length:Int))) then (bif ((decide ((0:Int)<=a))&&(decide (a<(s.length:Int)))) then ((qn (ix s a) f).bind λb=>(bif b then (Option.map Sum.inr (some (a))) else (some (Sum.inl ((i64.wrap (a+1))))))) else none) else (Option.map Sum.inr (some ((-1)))))
def kU (s:List dQ) (f:Int):Option (Int):=(dE (iD s f) (0))
def iE (s:List dQ) (f:Int):Option (Bool):=((kU s f).bind λa=>(some ((decide ((0:Int)<=a)))))
def mV (s:List dQ):Option ((List dQ)):=(bif (decide ((([]:List dQ)++s).length*24<=140737488355328)) then (some ((([]:List dQ)++s))) else none)
def lD (l:dh):Option ((List dQ)):=((mV l.Line).bind λa=>(some (a)))
def n8 (c:List Int) (a:Int) (b:Bool) (d:List dQ):Option ((List Int)×Int×Bool×List dQ):=(some (c,a,b,d))
def jU:Int×Bool×List Int×(List dQ)->Option (((Int×Bool×List Int×List dQ) ⊕ ((List Int)×Int×Bool×List dQ))):=λ(b,c,d,a)=>(bif ((decide ((0:Int)<(a.length:Int)))&&(!c)) then (bif (decide ((0:Int)<(a.length:Int))) then (bif ((ix a (0:Int)).Write&&(decide ((0:Int)<b))) then (Option.map Sum.inr (n8 d b c a)) else (bif (decide ((1:Int)<=(a.length:Int))) then (bif (decide ((d++([(ix a (0:Int)).Task]:List Int)).length*8<=140737488355328)) then (bif (!(ix a (0:Int)).Write) then (some (Sum.inl ((i64.wrap (b+1)),(ix a (0:Int)).Write,(d++([(ix a (0:Int)).Task]:List Int)),(cut a (1:Int) (a.length:Int))))) else (some (Sum.inl (b,(ix a (0:Int)).Write,(d++([(ix a (0:Int)).Task]:List Int)),(cut a (1:Int) (a.length:Int)))))) else none) else none)) else none) else (Option.map Sum.inr (n8 d b c a)))
def kM (a:Int) (b:Bool) (c:List dQ):Option ((List Int)×Int×Bool×List dQ):=(dE jU (a,b,[],c))
def mC (l:dh) (b:Int) (e m:Bool):Option (Int×Bool×Bool×cC×List dQ):=((oS l).bind λd=>(bif (d.Code != 0) then (some (0,false,false,d,[])) else (bif (decide (b<1)) then ((jT 3 (-1)).bind λf=>(some (0,false,false,f,[]))) else ((iE l.Line b).bind λh=>(bif h then ((jT 10 (-1)).bind λg=>(some (0,false,false,g,[]))) else (bif (((l.Line.length:Int)==5000)||(l.Readers==1000000000)) then ((jT 9 0).bind λi=>(some (0,false,false,i,[]))) else ((lD l).bind λc=>(bif (decide ((c++([(dQ.mk b e 0)]:List dQ)).length*24<=140737488355328)) then ((kM l.Readers l.Writer (c++([(dQ.mk b e 0)]:List dQ))).bind λa=>((ic a.1 b).bind λj=>(bif j then (some (a.2.1,a.2.2.1,true,(cC.mk 0 0),a.2.2.2)) else (bif m then ((lD l).bind λk=>(some (l.Readers,l.Writer,false,(cC.mk 0 0),k))) else (some (a.2.1,a.2.2.1,false,(cC.mk 0 0),a.2.2.2)))))) else none))))))))
def nN (a:Int) (c:Bool) (d:List dQ):Option (Int×Bool×Bool×cC×List dQ×List Int):=((kM a c d).bind λb=>(some (b.2.1,b.2.2.1,false,(cC.mk 0 0),b.2.2.2,b.1)))
def nB (l:dh) (a:Bool):Option (Int×Bool×Bool×cC×List dQ×List Int):=((oS l).bind λc=>(bif (c.Code != 0) then (some (0,false,false,c,[],[])) else (bif (bif a then ((!l.Writer)||((!a)&&(l.Readers==0))) else ((!a)&&(l.Readers==0))) then ((lD l).bind λd=>(some (l.Readers,l.Writer,true,(cC.mk 0 0),d,[]))) else ((lD l).bind λb=>(bif a then (nN l.Readers false b) else (nN (i64.wrap (l.Readers-1)) l.Writer b))))))
def jj (a b:Int):Option (cC):=(some ((cC.mk a b)))
def qo (l:List Int):Int×(List (Int×Int))->Option (((Int×(List (Int×Int))) ⊕ (cC))):=λ(a,b)=>(bif (decide (a<(l.length:Int))) then (bif ((decide ((0:Int)<=a))&&(decide (a<(l.length:Int)))) then (bif (decide ((ix l a)<1)) then ((jj 3 (i64.wrap (a+1))).bind λd=>(Option.map Sum.inr (some (d)))) else (bif (decide ((0:Int)<(fU b (ix l a)))) then ((jj 10 (i64.wrap (a+1))).bind λc=>(Option.map Sum.inr (some (c)))) else (some (Sum.inl ((i64.wrap (a+1)),(iw b (ix l a) 1)))))) else none) else (Option.map Sum.inr (some ((cC.mk 0 0)))))
def rI (l:List Int):Option (cC):=(bif (decide ((5000:Int)<(l.length:Int))) then ((jj 2 0).bind λa=>(some (a))) else (dE (qo l) (0,[])))
def oT (g:cX):Option (cC):=((rI g.Line).bind λa=>(bif (a.Code != 0) then (some (a)) else (bif ((decide (g.Count<0))||(decide ((1000000000:Int)<g.Count))) then ((jj 3 0).bind λc=>(some (c))) else (bif ((g.Count==0)&&(decide ((0:Int)<(g.Line.length:Int)))) then ((jj 5 0).bind λb=>(some (b))) else (some ((cC.mk 0 0)))))))
def nC (g:cX) (n:Int):Option (Int×Bool×cC×List Int×List Int):=((oT g).bind λb=>(bif (b.Code != 0) then (some (0,false,b,[],[])) else (bif ((decide (n<(-1000000000)))||(decide ((1000000000:Int)<n))) then ((jj 3 (-1)).bind λc=>(some (0,false,c,[],[]))) else ((fe g.Line).bind λa=>(bif (decide ((i64.wrap (g.Count+n))<0)) then (some (g.Count,true,(cC.mk 0 0),a,[])) else (bif (decide ((1000000000:Int)<(i64.wrap (g.Count+n)))) then ((jj 9 0).bind λd=>(some (0,false,d,[],[]))) else (bif ((i64.wrap (g.Count+n))==0) then (some (0,false,(cC.mk 0 0),[],a)) else (some ((i64.wrap (g.Count+n)),false,(cC.mk 0 0),a,[])))))))))
def qp (l:List Int) (a:Int):Option (cC):=(bif (decide (a<1)) then ((jj 3 (-1)).bind λc=>(some (c))) else ((ic l a).bind λb=>(bif b then ((jj 10 (-1)).bind λe=>(some (e))) else (bif ((l.length:Int)==5000) then ((jj 9 0).bind λd=>(some (d))) else (some ((cC.mk 0 0)))))))
def mh (g:cX) (a:List Int):Option (Int×Bool×cC×List Int):=(some (g.Count,(g.Count==0),(cC.mk 0 0),a))
def nO (g:cX) (b:Int) (c:cC):Option (Int×Bool×cC×List Int):=(bif (c.Code != 0) then (some (0,false,c,[])) else ((fe g.Line).bind λa=>(bif (decide ((0:Int)<g.Count)) then (bif (decide ((a++([b]:List Int)).length*8<=140737488355328)) then (mh g (a++([b]:List Int))) else none) else (mh g a))))
def nD (g:cX) (a:Int):Option (Int×Bool×cC×List Int):=((oT g).bind λb=>(bif (b.Code==0) then ((qp g.Line a).bind λc=>(nO g a c)) else (nO g a b)))
def fp (a:Int) (g:List cz) (d:List Int) (f:List cq) (e:List bV) (c:List dh) (b:List cX):Option (Bool×Int×List cz×List Int×List cq×List bV×List dh×List cX):=(some (true,a,g,d,f,e,c,b))
def hU (n:Int) (p:df) (a:List df) (e:Int) (o:List cX):Int×Int×List cq×List bV×List dh×List Int×List cz×(List Int)->Option (((Int×Int×List cq×List bV×List dh×List Int×List cz×List Int) ⊕ (Bool×Int×List cz×List Int×List cq×List bV×List dh×List cX))):=λ(h,b,c,i,j,d,k,l)=>(bif (decide (0<=n/\n<(i.length:Int))) then (bif (decide (b<h)) then (bif ((decide ((0:Int)<=b))&&(decide (b<(d.length:Int)))) then ((dK (ix d b) c).bind λf=>(bif (decide (0<=f/\f<(c.length:Int))) then (bif ((decide ((0:Int)<=(ix c f).pc))&&(decide ((ix c f).pc<(a.length:Int)))) then ((dp (ix d b) 17 p.A (ix a (ix c f).pc).B k).bind λm=>((fV n (ix d b) c i l).bind λg=>(bif (decide (0<=n/\n<(g.2.2.length:Int))) then (some (Sum.inl (h,(i64.wrap (b+1)),g.2.1,g.2.2,j,d,m,g.1))) else none))) else none) else none)) else none) else (Option.map Sum.inr (fp e k l c i j o))) else none)
def hX (l:Int) (m:df) (b:Int) (n:List dh):Int×Int×List cq×List bV×List cX×List Int×List cz×(List Int)->Option (((Int×Int×List cq×List bV×List cX×List Int×List cz×List Int) ⊕ (Bool×Int×List cz×List Int×List cq×List bV×List dh×List cX))):=λ(e,a,j,f,g,c,h,i)=>(bif (decide (0<=l/\l<(f.length:Int))) then (bif (decide (a<e)) then (bif ((decide ((0:Int)<=a))&&(decide (a<(c.length:Int)))) then ((dp (ix c a) 20 m.A 0 h).bind λk=>((fV l (ix c a) j f i).bind λd=>(bif (decide (0<=l/\l<(d.2.2.length:Int))) then (some (Sum.inl (e,(i64.wrap (a+1)),d.2.1,d.2.2,g,c,k,d.1))) else none))) else none) else (Option.map Sum.inr (fp b h i j f n g))) else none)
def eW (y t:Int) (b:df) (g:List df) (a:Int) (p:List cz) (k:List cq) (n:List bV) (o:List Int) (f:List dh) (d:List cX):Option (Bool×Int×List cz×List Int×List cq×List bV×List dh×List cX):=(bif (decide (0<=y/\y<(n.length:Int))) then ((dK t k).bind λj=>(bif (decide (0<=j/\j<(k.length:Int))) then (bif (b.Op==17) then (bif ((decide ((0:Int)<=b.A))&&(decide (b.A<(f.length:Int)))) then ((mC (ix f b.A) t (b.B==1) false).bind λe=>(bif ((decide ((0:Int)<=b.A))&&(decide (b.A<(f.length:Int)))) then ((λz1:List dh=>(bif (!e.2.2.1) then ((fY t k).bind λm=>(some (m.1,a,p,o,m.2,n,z1,d))) else ((dp t b.Op b.A b.B p).bind λw=>(fp a w o k n z1 d)))) (f.set b.A.toNat ((dh.mk e.1 e.2.1 e.2.2.2.2):dh))) else none)) else none) else (bif (b.Op==18) then (bif ((decide ((0:Int)<=b.A))&&(decide (b.A<(f.length:Int)))) then ((nB (ix f b.A) (b.B==1)).bind λc=>(bif ((decide ((0:Int)<=b.A))&&(decide (b.A<(f.length:Int)))) then ((λz0:List dh=>(bif c.2.2.1 then ((dG t b.A p).bind λv=>(some (false,2,v,o,k,n,z0,d))) else ((dp t b.Op b.A b.B p).bind λq=>(dE (hU y b g a d) ((c.2.2.2.2.2.length:Int),0,k,n,z0,c.2.2.2.2.2,q,o))))) (f.set b.A.toNat ((dh.mk c.1 c.2.1 c.2.2.2.2.1):dh))) else none)) else none) else (bif (b.Op==19) then (bif ((decide ((0:Int)<=b.A))&&(decide (b.A<(d.length:Int)))) then (bif ((decide ((0:Int)<=b.B))&&(decide (b.B<((8:Nat):Int)))) then ((nC (ix d b.A) ((ix k j).r.get b.B)).bind λh=>(bif (h.2.1||(h.2.2.1.Code != 0)) then ((dG t b.A p).bind λu=>(some (false,2,u,o,k,n,f,d))) else (bif ((decide ((0:Int)<=b.A))&&(decide (b.A<(d.length:Int)))) then ((dp t b.Op b.A ((ix k j).r.get b.B) p).bind λs=>(dE (hX y b a f) ((h.2.2.2.2.length:Int),0,k,n,(d.set b.A.toNat ((cX.mk h.1 h.2.2.2.1):cX)),h.2.2.2.2,s,o))) else none))) else none) else none) else (bif (b.Op==20) then (bif ((decide ((0:Int)<=b.A))&&(decide (b.A<(d.length:Int)))) then ((nD (ix d b.A) t).bind λi=>(bif ((decide ((0:Int)<=b.A))&&(decide (b.A<(d.length:Int)))) then (bif (!i.2.1) then ((fY t k).bind λl=>(some (l.1,a,p,o,l.2,n,f,(d.set b.A.toNat ((cX.mk i.1 i.2.2.2):cX))))) else ((dp t b.Op b.A 0 p).bind λx=>(fp a x o k n f (d.set b.A.toNat ((cX.mk i.1 i.2.2.2):cX))))) else none)) else none) else (fp a p o k n f d))))) else none)) else none)
def eS (a b:Int) (j:List cQ) (i:List dh) (h:List cX) (d:List cz) (e:List cq) (c g:List Int) (f:List bV):Option (Bool×Int×Int×List cz×List cq×List Int×List Int×List bV×List cQ×List dh×List cX):=(some (true,a,b,d,e,c,g,f,j,i,h))
def ju (b:Int) (g:List Int) (j:List bV) (h:List Int) (i:List cQ) (f:List dh) (e:List cX) (a:Int) (c:List cz) (d:List cq):Option (Bool×Int×Int×List cz×List cq×List Int×List Int×List bV×List cQ×List dh×List cX):=(some (false,a,b,c,d,h,g,j,i,f,e))
def er (m t:Int) (i:df) (g:List df) (d c e:Int) (u:List cz) (v:List Int) (b:List cq) (o:List bV) (q:List Int) (s:List cQ) (k:List dh) (j:List cX) (a:Int) (l:Bool):Option (Bool×Int×Int×List cz×List cq×List Int×List Int×List bV×List cQ×List dh×List cX):=(bif (decide (0<=m/\m<(o.length:Int))) then (bif (decide (0<=a/\a<(b.length:Int))) then (bif l then ((eW m t i g d u b o q k j).bind λf=>(bif (decide (0<=m/\m<(f.2.2.2.2.2.1.length:Int))) then (bif (decide (0<=a/\a<(f.2.2.2.2.1.length:Int))) then (some (f.1,f.2.1,e,f.2.2.1,f.2.2.2.2.1,f.2.2.2.1,v,f.2.2.2.2.2.1,s,f.2.2.2.2.2.2.1,f.2.2.2.2.2.2.2)) else none) else none)) else (bif (i.Op==21) then (bif ((decide ((0:Int)<=i.A))&&(decide (i.A<((8:Nat):Int)))) then (bif (decide ((1000000000:Int)<((ix b a).r.get i.A))) then ((dG t 0 u).bind λn=>(some (false,2,e,n,b,q,v,o,s,k,j))) else (bif (decide (((ix b a).r.get i.A)<1)) then ((i0 m t b o q).bind λh=>(bif (decide (0<=m/\m<(h.2.2.2.length:Int))) then (bif (decide (0<=a/\a<(h.2.2.1.length:Int))) then (some (h.1,d,e,u,h.2.2.1,h.2.1,v,h.2.2.2,s,k,j)) else none) else none)) else ((λz0:List cq=>((λz1:List cq=>((λz2:List cq=>(some (false,d,(i64.wrap (e+1)),u,(z2.set a.toNat ((cq.mk (ix z2 a).pc (ix z2 a).r (ix z2 a).state (ix z2 a).when (i64.wrap (e+1))):cq)),q,v,o,s,k,j))) (z1.set a.toNat ((cq.mk (ix z1 a).pc (ix z1 a).r (ix z1 a).state (i64.wrap (c+((ix b a).r.get i.A))) (ix z1 a).seq):cq)))) (z0.set a.toNat ((cq.mk (ix z0 a).pc (ix z0 a).r 2 (ix z0 a).when (ix z0 a).seq):cq)))) (b.set a.toNat ((cq.mk (i64.wrap ((ix b a).pc+1)) (ix b a).r (ix b a).state (ix b a).when (ix b a).seq):cq))))) else none) else (bif (i.Op==22) then ((dG t 0 u).bind λp=>(some (false,2,e,p,b,q,v,o,s,k,j))) else (eS d e s k j u b q v o)))) else none) else none)
def fD (j t:Int) (f:df) (a:List df) (b c d:Int) (q:List cz) (n:List Int) (l:List cq) (m:List bV) (o:List Int) (p:List cQ) (i:List dh) (h:List cX) (g:Int) (k:Bool):Option (Bool×Int×Int×List cz×List cq×List Int×List Int×List bV×List cQ×List dh×List cX):=(bif (decide (0<=j/\j<(m.length:Int))) then (bif (decide (0<=g/\g<(l.length:Int))) then (bif k then ((eD j t f a b q l m o p).bind λe=>(bif (decide (0<=j/\j<(e.2.2.2.2.2.1.length:Int))) then (bif (decide (0<=g/\g<(e.2.2.2.2.1.length:Int))) then (some (e.1,e.2.1,d,e.2.2.1,e.2.2.2.2.1,e.2.2.2.1,n,e.2.2.2.2.2.1,e.2.2.2.2.2.2,i,h)) else none) else none)) else (bif (f.Op==17) then (er j t f a b c d q n l m o p i h g (f.Op==17)) else (bif (f.Op==18) then (er j t f a b c d q n l m o p i h g (f.Op==18)) else (bif (f.Op==19) then (er j t f a b c d q n l m o p i h g (f.Op==19)) else (er j t f a b c d q n l m o p i h g (f.Op==20)))))) else none) else none)
def dB (p t:Int) (c:df) (e:List df) (b f d:Int) (s:List cz) (l:List Int) (g:List cq) (m:List bV) (n:List Int) (o:List cQ) (j:List dh) (i:List cX):Option (Bool×Int×Int×List cz×List cq×List Int×List Int×List bV×List cQ×List dh×List cX):=(bif (decide (0<=p/\p<(m.length:Int))) then ((dK t g).bind λa=>(bif (decide (0<=a/\a<(g.length:Int))) then (bif (c.Op==8) then (bif ((decide ((0:Int)<=c.A))&&(decide (c.A<((8:Nat):Int)))) then ((dp t c.Op 0 ((ix g a).r.get c.A) s).bind λu=>(eS b d o j i u g n l m)) else none) else (bif (c.Op==9) then ((dp t c.Op 0 0 s).bind λq=>((λz1:List cq=>(bif (t==1) then (ju d l m n o j i 1 q z1) else (ju d l m n o j i b q z1))) (g.set a.toNat ((cq.mk (ix g a).pc (ix g a).r 3 (ix g a).when (ix g a).seq):cq)))) else (bif (c.Op==10) then ((i0 p t g m n).bind λh=>(bif (decide (0<=p/\p<(h.2.2.2.length:Int))) then (bif (decide (0<=a/\a<(h.2.2.1.length:Int))) then (some (h.1,b,d,s,h.2.2.1,h.2.1,l,h.2.2.2,o,j,i)) else none) else none)) else (bif (c.Op==11) then (bif ((g.length:Int)==64) then (some (false,4,d,s,g,n,l,m,o,j,i)) else (bif ((decide ((0:Int)<=c.B))&&(decide (c.B<((8:Nat):Int)))) then (bif (decide ((g++[((cq.mk c.A ((default:(dm 8)).set (0:Int) ((ix g a).r.get c.B)) 0 0 0):cq)]).length*8<=140737488355328)) then ((dp t c.Op 0 (((g++[((cq.mk c.A ((default:(dm 8)).set (0:Int) ((ix g a).r.get c.B)) 0 0 0):cq)]).length:Nat):Int) s).bind λx=>((i5 p (((g++[((cq.mk c.A ((default:(dm 8)).set (0:Int) ((ix g a).r.get c.B)) 0 0 0):cq)]).length:Nat):Int) (g++[((cq.mk c.A ((default:(dm 8)).set (0:Int) ((ix g a).r.get c.B)) 0 0 0):cq)]) m n).bind λk=>(bif (decide (0<=p/\p<(k.2.2.length:Int))) then (eS b d o j i x k.2.1 k.1 l k.2.2) else none))) else none) else none)) else (bif (c.Op==12) then (bif ((decide ((0:Int)<=c.B))&&(decide (c.B<(l.length:Int)))) then (bif ((decide ((0:Int)<=c.A))&&(decide (c.A<((8:Nat):Int)))) then ((λz0:List cq=>((dp t c.Op c.B ((ix z0 a).r.get c.A) s).bind λv=>(eS b d o j i v z0 n l m))) (g.set a.toNat ((cq.mk (ix g a).pc ((ix g a).r.set c.A (ix l c.B)) (ix g a).state (ix g a).when (ix g a).seq):cq))) else none) else none) else (bif (c.Op==13) then (bif ((decide ((0:Int)<=c.B))&&(decide (c.B<((8:Nat):Int)))) then (bif ((decide ((0:Int)<=c.A))&&(decide (c.A<(l.length:Int)))) then ((dp t c.Op c.A ((ix g a).r.get c.B) s).bind λw=>(eS b d o j i w g n (l.set c.A.toNat ((ix g a).r.get c.B)) m)) else none) else none) else (bif (c.Op==14) then (fD p t c e b f d s l g m n o j i a (c.Op==14)) else (bif (c.Op==15) then (fD p t c e b f d s l g m n o j i a (c.Op==15)) else (fD p t c e b f d s l g m n o j i a (c.Op==16)))))))))) else none)) else none)
def ek (p:Int) (e:List df) (s:List cz) (c f g:Int) (o:List Int) (n:List cq) (q:List cQ) (m:List dh) (l:List cX) (h:List bV) (j:List Int) (b:Int) (i:df):Option (Int×Int×List cz×List cq×List Int×List Int×List bV×List cQ×List dh×List cX):=(bif (decide (0<=p/\p<(h.length:Int))) then (bif (decide (0<=b/\b<(n.length:Int))) then ((oP i.Op).bind λk=>(bif k then ((mg i (ix n b).pc b n).bind λd=>(bif (decide (d.2.length=n.length)) then (bif (decide (0<=b/\b<(d.2.length:Int))) then (some (c,g,s,(d.2.set b.toNat ((cq.mk d.1 (ix d.2 b).r (ix d.2 b).state (ix d.2 b).when (ix d.2 b).seq):cq)),j,o,h,q,m,l)) else none) else none)) else ((dB p (ix h p).now i e c f g s o n h j q m l).bind λa=>(bif (decide (0<=p/\p<(a.2.2.2.2.2.2.2.1.length:Int))) then (bif (decide (0<=b/\b<(a.2.2.2.2.1.length:Int))) then (bif a.1 then (some (a.2.1,a.2.2.1,a.2.2.2.1,(a.2.2.2.2.1.set b.toNat ((cq.mk (i64.wrap ((ix a.2.2.2.2.1 b).pc+1)) (ix a.2.2.2.2.1 b).r (ix a.2.2.2.2.1 b).state (ix a.2.2.2.2.1 b).when (ix a.2.2.2.2.1 b).seq):cq)),a.2.2.2.2.2.1,a.2.2.2.2.2.2.1,a.2.2.2.2.2.2.2.1,a.2.2.2.2.2.2.2.2.1,a.2.2.2.2.2.2.2.2.2.1,a.2.2.2.2.2.2.2.2.2.2)) else (bif (((ix a.2.2.2.2.2.2.2.1 p).now==(ix h p).now)&&((ix a.2.2.2.2.1 b).state != 0)) then (some (a.2.1,a.2.2.1,a.2.2.2.1,a.2.2.2.2.1,a.2.2.2.2.2.1,a.2.2.2.2.2.2.1,(a.2.2.2.2.2.2.2.1.set p.toNat ((bV.mk 0 (ix a.2.2.2.2.2.2.2.1 p).Ring_Next (ix a.2.2.2.2.2.2.2.1 p).Ring_List):bV)),a.2.2.2.2.2.2.2.2.1,a.2.2.2.2.2.2.2.2.2.1,a.2.2.2.2.2.2.2.2.2.2)) else (some (a.2.1,a.2.2.1,a.2.2.2.1,a.2.2.2.2.1,a.2.2.2.2.2.1,a.2.2.2.2.2.2.1,a.2.2.2.2.2.2.2.1,a.2.2.2.2.2.2.2.2.1,a.2.2.2.2.2.2.2.2.2.1,a.2.2.2.2.2.2.2.2.2.2)))) else none) else none)))) else none) else none)
def gb (p:Int) (a:List df) (n:List cz) (b c e:Int) (l:List Int) (h:List cq) (m:List cQ) (j:List dh) (i:List cX) (k:Bool) (f:List bV) (g:List Int):Option (Int×Int×List cz×List cq×List Int×List Int×List bV×List cQ×List dh×List cX):=(bif (decide (0<=p/\p<(f.length:Int))) then (bif k then (some (b,e,n,h,g,l,f,m,j,i)) else ((dK (ix f p).now h).bind λd=>(bif (decide (0<=d/\d<(h.length:Int))) then (bif (decide ((ix h d).pc<(a.length:Int))) then (bif ((decide ((0:Int)<=(ix h d).pc))&&(decide ((ix h d).pc<(a.length:Int)))) then (ek p a n b c e l h m j i f g d (ix a (ix h d).pc)) else none) else (ek p a n b c e l h m j i f g d (df.mk 9 0 0))) else none))) else none)
def gq (p:Int) (a:List df) (h:Int) (g:List Int) (i f:Int) (q:List cz) (b j c:Int) (t:List Int) (d:Int) (r:List Int) (s:List cq) (m:List bV) (n:List Int) (o:List cQ) (l:List dh) (k:List cX):Option (Int×Int×List cz×List cq×List Int×List Int×List bV×List cQ×List dh×List cX):=(bif ((decide ((0:Int)<=p))&&(decide (p<(m.length:Int)))) then (bif ((ix m p).now==0) then ((gp p m n).bind λe=>(bif (decide (0<=p/\p<(e.2.2.length:Int))) then (gb p a q b c d r s o l k (!e.1) e.2.2 e.2.1) else none)) else (gb p a q b c d r s o l k false m n)) else none)
def iP (a:Int) (b:List cq):Option (Bool):=(bif (decide (0<=a/\a<(b.length:Int))) then (some ((((ix b a).state==0)||((ix b a).state==2)))) else none)
def ge (c:List cq):Int->Option (((Int) ⊕ (Int))):=λa=>(bif (decide (a<(c.length:Int))) then (bif ((decide ((0:Int)<=a))&&(decide (a<(c.length:Int)))) then ((iP a c).bind λb=>(bif b then (Option.map Sum.inr (some (a))) else (some (Sum.inl ((i64.wrap (a+1))))))) else none) else (Option.map Sum.inr (some ((-1)))))
def j_ (a:List cq):Option (Int):=(dE (ge a) (0))
def jk (b:List cq):Option (Bool):=((j_ b).bind λa=>(some ((decide ((0:Int)<=a)))))
def jv (b:List cq):Option (Bool):=((jk b).bind λa=>(some ((!a))))
def nP (b c d:Int) (g:List cz) (h:List Int) (e:List cq):Int×(List Int)->Option (((Int×List Int) ⊕ (Int×Int×Int×cC×List cz×List Int×List Int))):=λ(a,f)=>(bif (decide (a<(e.length:Int))) then (bif ((decide ((0:Int)<=a))&&(decide (a<(e.length:Int)))) then (bif (decide ((f++([(ix e a).state]:List Int)).length*8<=140737488355328)) then (some (Sum.inl ((i64.wrap (a+1)),(f++([(ix e a).state]:List Int))))) else none) else none) else (Option.map Sum.inr (some (b,c,d,(cC.mk 0 0),g,f,h))))
def mj (a b c:Int) (d:List cz) (e g:List Int) (f:List cq):Option (Int×Int×Int×cC×List cz×List Int×List Int):=(dE (nP a b c d g f) (0,e))
def ml (n b:Int) (m:List Int) (a c d:Int) (g:List cz) (h:List Int) (k:List cq) (i:List bV) (j:List Int) (l:List cQ) (e:List dh) (f:List cX):Option (((Int×Int×Int×Int×Int×List cz×List Int×List Int×List cq×List bV×List Int×List cQ×List dh×List cX) ⊕ (Int×Int×Int×cC×List cz×List Int×List Int))):=(some (Sum.inl ((i64.wrap (n+1)),a,(i64.wrap (b+1)),c,d,g,m,h,k,i,j,l,e,f)))
def mn (m a:Int) (l:List Int) (c b d:Int) (g:List cz) (i:List Int) (j:List cq) (n:List bV) (k:List Int) (h:List cQ) (e:List dh) (f:List cX) (o:Bool):Option (((Int×Int×Int×Int×Int×List cz×List Int×List Int×List cq×List bV×List Int×List cQ×List dh×List cX) ⊕ (Int×Int×Int×cC×List cz×List Int×List Int))):=(bif o then (ml m a l 3 b d g i j n k h e f) else (ml m a l c b d g i j n k h e f))
def mo (m b:Int) (l:List Int) (a c d:Int) (h:List cz) (j:List Int) (e:List cq) (n:List bV) (k:List Int) (i:List cQ) (f:List dh) (g:List cX):Option (((Int×Int×Int×Int×Int×List cz×List Int×List Int×List cq×List bV×List Int×List cQ×List dh×List cX) ⊕ (Int×Int×Int×cC×List cz×List Int×List Int))):=(bif (a==0) then ((jv e).bind λo=>(mn m b l a c d h j e n k i f g o)) else (mn m b l a c d h j e n k i f g false))
def iH (p:cy) (g:List Int):Int×Int×Int×Int×Int×List cz×List Int×List Int×List cq×List bV×List Int×List cQ×List dh×(List cX)->Option (((Int×Int×Int×Int×Int×List cz×List Int×List Int×List cq×List bV×List Int×List cQ×List dh×List cX) ⊕ (Int×Int×Int×cC×List cz×List Int×List Int))):=λ(e,b,a,c,f,j,h,k,i,r,o,q,n,m)=>(bif (decide (e<(g.length:Int))) then (bif ((decide ((0:Int)<=e))&&(decide (e<(g.length:Int)))) then (bif (b != 0) then (Option.map Sum.inr (mj b a c j h k i)) else (bif (decide ((ix g e)<0)) then ((jS c i o).bind λl=>(mo e a h b l.1 f j k l.2.2 r l.2.1 q n m)) else ((gq (ix g e) p.Code p.Cells p.Pipes p.Locks p.Groups j b (i64.wrap (a+1)) c h f k i r o q n m).bind λd=>(mo e a h d.1 c d.2.1 d.2.2.1 d.2.2.2.2.2.1 d.2.2.2.1 d.2.2.2.2.2.2.1 d.2.2.2.2.1 d.2.2.2.2.2.2.2.1 d.2.2.2.2.2.2.2.2.1 d.2.2.2.2.2.2.2.2.2)))) else none) else (Option.map Sum.inr (mj b a c j h k i)))
def nQ (p:cy) (d:Int) (c:List Int):Int->Option (((Int) ⊕ (Int×Int×Int×cC×List cz×List Int×List Int))):=λb=>(bif (decide (b<(c.length:Int))) then (bif ((decide ((0:Int)<=b))&&(decide (b<(c.length:Int)))) then (bif ((decide ((ix c b)<(-1)))||(decide (d<=(ix c b)))) then ((ph 3 b).bind λe=>(Option.map Sum.inr (some (0,0,0,e,[],[],[])))) else (some (Sum.inl ((i64.wrap (b+1)))))) else none) else (Option.map Sum.inr ((lR p d).bind λa=>(dE (iH p c) (0,0,0,0,0,[],[],a.1,a.2.1,a.2.2.1,a.2.2.2.1,a.2.2.2.2.1,a.2.2.2.2.2.1,a.2.2.2.2.2.2)))))
def mD (p:cy) (a:Int) (b:List Int):Option (Int×Int×Int×cC×List cz×List Int×List Int):=((qj p).bind λc=>(bif (c.Code != 0) then (some (0,0,0,c,[],[],[])) else (bif ((decide (a<1))||(decide ((16:Int)<a))) then ((ph 3 (-1)).bind λd=>(some (0,0,0,d,[],[],[]))) else (bif (decide ((5000:Int)<(b.length:Int))) then ((ph 2 (-1)).bind λe=>(some (0,0,0,e,[],[],[]))) else (dE (nQ p a b) (0))))))
def kC:Option (Bool):=((mD (cy.mk ([(df.mk 15 0 0)]:List df) 0 ([0]:List Int) 0 0) 1 ([0,0]:List Int)).bind λa=>(some (((a.2.2.2.1.Code==0)&&((a.1==3)&&((a.2.1==1)&&((a.2.2.2.2.1.length:Int)==0)))))))
def ka (p:cy):Option (Bool):=(some (((decide ((2000:Int)<(p.Code.length:Int)))||(decide ((2000:Int)<(p.Pipes.length:Int))))))
def gG (a b:Int):Option (cC):=(some ((cC.mk a b)))
def ff (x a:Int):Option (Bool):=(some (((decide ((0:Int)<=x))&&(decide (x<a)))))
def f8 (p:cy) (k x:Int):Option (Bool):=(bif (k==110) then (some (true)) else (bif (k==114) then (ff x 8) else (bif (k==99) then (ff x (p.Code.length:Int)) else (bif (k==109) then (ff x p.Cells) else (bif (k==112) then (ff x (p.Pipes.length:Int)) else (bif (k==108) then (ff x p.Locks) else (bif (k==103) then (ff x p.Groups) else (bif (k==107) then (ff x 2) else (ff x 1)))))))))
def fy (c:Int) (a:Bool):Option (((Int) ⊕ (cC))):=(bif a then ((gG 5 c).bind λb=>(Option.map Sum.inr (some (b)))) else (some (Sum.inl ((i64.wrap (c+1))))))
def dW (p:cy):Int->Option (((Int) ⊕ (cC))):=λa=>(bif (decide (a<(p.Code.length:Int))) then (bif ((decide ((0:Int)<=a))&&(decide (a<(p.Code.length:Int)))) then (bif ((decide ((ix p.Code a).Op<1))||(decide ((22:Int)<(ix p.Code a).Op))) then ((gG 4 a).bind λb=>(Option.map Sum.inr (some (b)))) else (bif ((decide ((0:Int)<=(ix p.Code a).Op))&&(decide ((ix p.Code a).Op<(fX.length:Int)))) then (bif (decide ((0:Int)<((((ix fX (ix p.Code a).Op)).size:Nat):Int))) then ((f8 p ((((ix fX (ix p.Code a).Op)).data.getD ((0:Int)).toNat 0).toNat:Int) (ix p.Code a).A).bind λd=>(bif (!d) then (fy a true) else (bif ((decide ((0:Int)<=(ix p.Code a).Op))&&(decide ((ix p.Code a).Op<(fX.length:Int)))) then (bif (decide ((1:Int)<((((ix fX (ix p.Code a).Op)).size:Nat):Int))) then ((f8 p ((((ix fX (ix p.Code a).Op)).data.getD ((1:Int)).toNat 0).toNat:Int) (ix p.Code a).B).bind λc=>(fy a (!c))) else none) else none))) else none) else none)) else none) else (Option.map Sum.inr (some ((cC.mk 0 0)))))
def fZ (p:cy):Int->Option (((Int) ⊕ (cC))):=λa=>(bif (decide (a<(p.Pipes.length:Int))) then (bif ((decide ((0:Int)<=a))&&(decide (a<(p.Pipes.length:Int)))) then (bif ((!(!(decide ((ix p.Pipes a)<0))))||((decide ((0:Int)<=a))&&(decide (a<(p.Pipes.length:Int))))) then (bif ((decide ((ix p.Pipes a)<0))||(decide ((100:Int)<(ix p.Pipes a)))) then ((gG 8 a).bind λb=>(Option.map Sum.inr (some (b)))) else (some (Sum.inl ((i64.wrap (a+1)))))) else none) else none) else (Option.map Sum.inr (dE (dW p) (0))))
def iF (p:cy):Option (cC):=(bif ((decide ((1000:Int)<(p.Code.length:Int)))||(decide ((20:Int)<(p.Pipes.length:Int)))) then ((gG 2 0).bind λb=>(some (b))) else (bif ((decide (p.Cells<0))||((decide ((20:Int)<p.Cells))||((decide (p.Locks<0))||((decide ((20:Int)<p.Locks))||((decide (p.Groups<0))||(decide ((20:Int)<p.Groups))))))) then ((gG 3 0).bind λa=>(some (a))) else (dE (fZ p) (0))))
def jV (b:Int) (a:cC):Option (((Int×cC) ⊕ (cC))):=(some (Sum.inl ((i64.wrap (b+1)),a)))
def jW (d:Int) (a:List Int):Int×cC->Option (((Int×cC) ⊕ (cC))):=λ(c,b)=>(bif ((decide (c<(a.length:Int)))&&(b.Code==0)) then (bif ((decide ((0:Int)<=c))&&(decide (c<(a.length:Int)))) then (bif ((!(!(decide ((ix a c)<(-1)))))||((decide ((0:Int)<=c))&&(decide (c<(a.length:Int))))) then (bif ((decide ((ix a c)<(-1)))||(decide (d<=(ix a c)))) then ((gG 3 c).bind λe=>(jV c e)) else (jV c b)) else none) else none) else (Option.map Sum.inr (some (b))))
def gK (b:Int) (a:List Int) (c:cC):Option (cC):=(dE (jW b a) (0,c))
def fT (b:Int) (a:List Int) (c:cC):Option (cC):=(bif ((c.Code==0)&&(decide ((5000:Int)<(a.length:Int)))) then ((gG 2 (-1)).bind λd=>(gK b a d)) else (gK b a c))
def jx (p:cy) (a:Int) (b:List Int):Option (cC):=((iF p).bind λc=>(bif ((c.Code==0)&&((decide (a<1))||(decide ((16:Int)<a)))) then ((gG 3 (-1)).bind λd=>(fT a b d)) else (fT a b c)))
def jy (p:cy) (c:Int) (b:List Int) (d:Bool):Option (Int×Int×Int×Bool×List cz×List Int×List Int):=(bif d then (some (0,0,0,false,[],[],[])) else ((mD p c b).bind λa=>(some (a.1,a.2.1,a.2.2.1,(a.2.2.2.1.Code==0),a.2.2.2.2.1,a.2.2.2.2.2.1,a.2.2.2.2.2.2))))
def iZ (p:cy) (b:Int) (a:List Int):Option (Int×Int×Int×Bool×List cz×List Int×List Int):=((ka p).bind λc=>(bif c then (jy p b a true) else (bif (decide ((5000:Int)<(a.length:Int))) then (jy p b a true) else ((jx p b a).bind λd=>(jy p b a (d.Code != 0))))))
def fq (c:jR) (b a:Int):Option (((Int) ⊕ (Bool))):=(bif (decide (a<=(ix c.Trace b).Obj)) then (Option.map Sum.inr (some (false))) else (some (Sum.inl ((i64.wrap (b+1))))))
def ja (p:cy) (c:jR) (b:Int) (a:Bool):Option (((Int) ⊕ (Bool))):=(bif a then (fq c b p.Groups) else (bif ((ix c.Trace b).Op==22) then (fq c b 21) else (fq c b 1)))
def jb (p:cy) (c:jR) (b:Int) (a:Bool):Option (((Int) ⊕ (Bool))):=(bif a then (fq c b p.Locks) else (bif ((ix c.Trace b).Op==19) then (ja p c b ((ix c.Trace b).Op==19)) else (ja p c b ((ix c.Trace b).Op==20))))
def hZ (p:cy) (c:jR) (b:Int) (a:Bool):Option (((Int) ⊕ (Bool))):=(bif a then (fq c b (p.Pipes.length:Int)) else (bif ((ix c.Trace b).Op==17) then (jb p c b ((ix c.Trace b).Op==17)) else (jb p c b ((ix c.Trace b).Op==18))))
def jc (p:cy) (c:jR) (a:Int) (b:Bool):Option (((Int) ⊕ (Bool))):=(bif b then (fq c a p.Cells) else (bif ((ix c.Trace a).Op==14) then (hZ p c a ((ix c.Trace a).Op==14)) else (bif ((ix c.Trace a).Op==15) then (hZ p c a ((ix c.Trace a).Op==15)) else (hZ p c a ((ix c.Trace a).Op==16)))))
def h_ (p:cy) (b:jR):Int->Option (((Int) ⊕ (Bool))):=λa=>(bif (decide (a<(b.Trace.length:Int))) then (bif ((decide ((0:Int)<=a))&&(decide (a<(b.Trace.length:Int)))) then (bif ((decide ((ix b.Trace a).Op<8))||((decide ((22:Int)<(ix b.Trace a).Op))||((decide ((ix b.Trace a).Task<1))||((decide ((64:Int)<(ix b.Trace a).Task))||((decide ((ix b.Trace a).Obj<0))||(decide ((20:Int)<(ix b.Trace a).Obj))))))) then (Option.map Sum.inr (some (false))) else (bif ((ix b.Trace a).Op==12) then (jc p b a ((ix b.Trace a).Op==12)) else (jc p b a ((ix b.Trace a).Op==13)))) else none) else (Option.map Sum.inr (some (true))))
def kh (p:cy) (a:jR):Option (Bool):=(dE (h_ p a) (0))
def eU (c:Int) (a:Bool) (b:List Int):Option (((Bool×Int×List Int) ⊕ (((Int×Int×Int×Int×List cz×List Int×List Int) ⊕ (Bool))))):=(some (Sum.inl (a,(i64.wrap (c+1)),b)))
def ig (k e f g:Int) (c:List cz) (i j:List Int) (h:Int):Bool×Int×(List Int)->Option (((Bool×Int×List Int) ⊕ (((Int×Int×Int×Int×List cz×List Int×List Int) ⊕ (Bool))))):=λ(a,d,b)=>(bif (decide (d<(c.length:Int))) then (bif ((decide ((0:Int)<=d))&&(decide (d<(c.length:Int)))) then (bif ((ix c d).Obj != k) then (eU d a b) else (bif ((ix c d).Op==14) then (bif (decide ((b++([(ix c d).Value]:List Int)).length*8<=140737488355328)) then (bif (a||(decide (h<(((b++([(ix c d).Value]:List Int)).length:Nat):Int)))) then (Option.map Sum.inr (Option.map Sum.inr (some (false)))) else (eU d a (b++([(ix c d).Value]:List Int)))) else none) else (bif ((ix c d).Op==15) then (bif ((b.length:Int)==0) then (bif ((!a)||((ix c d).Value != 0)) then (Option.map Sum.inr (Option.map Sum.inr (some (false)))) else (eU d a b)) else (bif (decide ((0:Int)<(b.length:Int))) then (bif ((ix b (0:Int)) != (ix c d).Value) then (Option.map Sum.inr (Option.map Sum.inr (some (false)))) else (bif (decide ((1:Int)<=(b.length:Int))) then (eU d a (cut b (1:Int) (b.length:Int))) else none)) else none)) else (bif ((ix c d).Op==16) then (bif a then (Option.map Sum.inr (Option.map Sum.inr (some (false)))) else (eU d true b)) else (eU d a b))))) else none) else (Option.map Sum.inr (some (Sum.inl ((i64.wrap (k+1)),e,f,g,c,i,j)))))
def gA (h a b c:Int) (e:List cz) (g f:List Int) (d:Int):Option (((Int×Int×Int×Int×List cz×List Int×List Int) ⊕ (Bool))):=(dE (ig h a b c e g f d) (false,0,[]))
def ii (p:cy):Int×Int×Int×Int×List cz×List Int×(List Int)->Option (((Int×Int×Int×Int×List cz×List Int×List Int) ⊕ (Bool))):=λ(g,a,b,c,d,e,f)=>(bif (decide (g<(p.Pipes.length:Int))) then (bif ((decide ((0:Int)<=g))&&(decide (g<(p.Pipes.length:Int)))) then (bif (decide ((ix p.Pipes g)<1)) then (gA g a b c d e f 1) else (gA g a b c d e f (ix p.Pipes g))) else none) else (Option.map Sum.inr (some (true))))
def kD (p:cy) (c:Int) (b:List Int):Option (Bool):=(kC.bind λe=>(bif (!e) then (some (false)) else ((iZ p c b).bind λa=>(bif (!a.2.2.2.1) then (some (true)) else ((kh p (jR.mk a.2.2.2.2.1 a.1 a.2.1 a.2.2.1 a.2.2.2.2.2.1 a.2.2.2.2.2.2)).bind λd=>(bif (!d) then (some (false)) else (dE (ii p) (0,a.1,a.2.1,a.2.2.1,a.2.2.2.2.1,a.2.2.2.2.2.1,a.2.2.2.2.2.2))))))))
end
end Go.Proofs.YthcdpjkgdcpkmaaGreatDoor
