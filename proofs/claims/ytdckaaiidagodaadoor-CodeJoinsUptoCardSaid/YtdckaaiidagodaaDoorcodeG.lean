/-
 What laws of the chapter code compute, and lemmas on it.
 No conditions.
-/
import Derived.Test.YtdckaaiidagodaaDoorcodeA4
set_option linter.unusedSimpArgs false
set_option linter.unusedVariables false
set_option linter.unusedSectionVars false
namespace Go.Proofs.YtdckaaiidagodaaDoor
open Go Go.Sx
structure Fault where
 Code:Int
 At:Int
 deriving Inhabited,DecidableEq
instance : Enc Fault:=⟨2,fun d=>[.v (.int .i64 d.Code),.v (.int .i64 d.At)],fun _=>rfl,fun _=>rfl,fun _=>by simp only [stL,SV.st,fl_st,Bool.and_self]⟩
@[push_cast] theorem nim_Fault (xs:List Fault):nimL (fl xs) = true:=nimL_fl (fun _=>rfl) xs
@[push_cast] theorem sz_Fault:Enc.sz Fault = 2:=rfl
@[push_cast] theorem cells_Fault (d:Fault):Enc.cells d = [.v (.int .i64 d.Code),.v (.int .i64 d.At)]:=rfl
@[push_cast] theorem snoc_Fault (xs:List Fault) (x0:Int) (x1:Int):fl xs++[.v (.int .i64 x0),.v (.int .i64 x1)] = fl (xs++[Fault.mk x0 x1]):=by rw [fl_append]; rfl
@[push_cast] theorem ld_Fault_Code (xs:List Fault) (i:Int):(fl xs).getD (i.toNat * 2) (.v (.int .i64 0)) = .v (.int .i64 (ix xs i).Code):=by
 have:=fl_ix xs i 0 (by decide) (.v (.int .i64 0):SV) rfl
 rw [sz_Fault,Nat.add_zero] at this
 exact this
@[push_cast] theorem ld_Fault_At (xs:List Fault) (i:Int):(fl xs).getD (i.toNat * 2+1) (.v (.int .i64 0)) = .v (.int .i64 (ix xs i).At):=by
 have:=fl_ix xs i 1 (by decide) (.v (.int .i64 0):SV) rfl
 rw [sz_Fault] at this
 exact this
structure kind where
 name:ByteArray
 args:ByteArray
 deriving Inhabited,DecidableEq
instance : Enc kind:=⟨2,fun d=>[.v (.string d.name),.v (.string d.args)],fun _=>rfl,fun _=>rfl,fun _=>by simp only [stL,SV.st,fl_st,Bool.and_self]⟩
@[push_cast] theorem nim_kind (xs:List kind):nimL (fl xs) = true:=nimL_fl (fun _=>rfl) xs
@[push_cast] theorem sz_kind:Enc.sz kind = 2:=rfl
@[push_cast] theorem cells_kind (d:kind):Enc.cells d = [.v (.string d.name),.v (.string d.args)]:=rfl
@[push_cast] theorem snoc_kind (xs:List kind) (x0:ByteArray) (x1:ByteArray):fl xs++[.v (.string x0),.v (.string x1)] = fl (xs++[kind.mk x0 x1]):=by rw [fl_append]; rfl
structure GInstr where
 Op:Int
 A:Int
 B:Int
 deriving Inhabited,DecidableEq
instance : Enc GInstr:=⟨3,fun d=>[.v (.int .i64 d.Op),.v (.int .i64 d.A),.v (.int .i64 d.B)],fun _=>rfl,fun _=>rfl,fun _=>by simp only [stL,SV.st,fl_st,Bool.and_self]⟩
@[push_cast] theorem nim_GInstr (xs:List GInstr):nimL (fl xs) = true:=nimL_fl (fun _=>rfl) xs
@[push_cast] theorem sz_GInstr:Enc.sz GInstr = 3:=rfl
@[push_cast] theorem cells_GInstr (d:GInstr):Enc.cells d = [.v (.int .i64 d.Op),.v (.int .i64 d.A),.v (.int .i64 d.B)]:=rfl
@[push_cast] theorem snoc_GInstr (xs:List GInstr) (x0:Int) (x1:Int) (x2:Int):fl xs++[.v (.int .i64 x0),.v (.int .i64 x1),.v (.int .i64 x2)] = fl (xs++[GInstr.mk x0 x1 x2]):=by rw [fl_append]; rfl
@[push_cast] theorem ld_GInstr_Op (xs:List GInstr) (i:Int):(fl xs).getD (i.toNat * 3) (.v (.int .i64 0)) = .v (.int .i64 (ix xs i).Op):=by
 have:=fl_ix xs i 0 (by decide) (.v (.int .i64 0):SV) rfl
 rw [sz_GInstr,Nat.add_zero] at this
 exact this
@[push_cast] theorem ld_GInstr_A (xs:List GInstr) (i:Int):(fl xs).getD (i.toNat * 3+1) (.v (.int .i64 0)) = .v (.int .i64 (ix xs i).A):=by
 have:=fl_ix xs i 1 (by decide) (.v (.int .i64 0):SV) rfl
 rw [sz_GInstr] at this
 exact this
@[push_cast] theorem ld_GInstr_B (xs:List GInstr) (i:Int):(fl xs).getD (i.toNat * 3+2) (.v (.int .i64 0)) = .v (.int .i64 (ix xs i).B):=by
 have:=fl_ix xs i 2 (by decide) (.v (.int .i64 0):SV) rfl
 rw [sz_GInstr] at this
 exact this
def codeKinds:List kind:=[⟨⟨#[]⟩,⟨#[]⟩⟩,⟨⟨#[115,101,116]⟩,⟨#[114,110]⟩⟩,⟨⟨#[99,111,112,121]⟩,⟨#[114,114]⟩⟩,⟨⟨#[97,100,100]⟩,⟨#[114,114]⟩⟩,⟨⟨#[115,117,98]⟩,⟨#[114,114]⟩⟩,⟨⟨#[108,101,115,115]⟩,⟨#[114,114]⟩⟩,⟨⟨#[106,117,109,112]⟩,⟨#[99,45]⟩⟩,⟨⟨#[122,101,114,111]⟩,⟨#[114,99]⟩⟩,⟨⟨#[112,114,105,110,116]⟩,⟨#[114,45]⟩⟩,⟨⟨#[101,110,100]⟩,⟨#[45,45]⟩⟩,⟨⟨#[121,105,101,108,100]⟩,⟨#[45,45]⟩⟩,⟨⟨#[103,111]⟩,⟨#[99,114]⟩⟩,⟨⟨#[108,111,97,100]⟩,⟨#[114,109]⟩⟩,⟨⟨#[115,116,111,114,101]⟩,⟨#[109,114]⟩⟩,⟨⟨#[115,101,110,100]⟩,⟨#[112,114]⟩⟩,⟨⟨#[103,101,116]⟩,⟨#[114,112]⟩⟩,⟨⟨#[115,104,117,116]⟩,⟨#[112,45]⟩⟩,⟨⟨#[108,111,99,107]⟩,⟨#[108,107]⟩⟩,⟨⟨#[117,110,108,111,99,107]⟩,⟨#[108,107]⟩⟩,⟨⟨#[99,111,117,110,116]⟩,⟨#[103,114]⟩⟩,⟨⟨#[119,97,105,116]⟩,⟨#[103,45]⟩⟩,⟨⟨#[115,108,101,101,112]⟩,⟨#[114,45]⟩⟩,⟨⟨#[112,97,110,105,99]⟩,⟨#[45,45]⟩⟩]
noncomputable def taskmilllaw_codeBegun:Option (Bool):=some true
noncomputable def code_fault (code:Int) (xat:Int):Option (Fault):=(some ((Fault.mk code xat)))
noncomputable def strings_Cut (s:ByteArray) (sep:ByteArray):Option (ByteArray×ByteArray×Bool):=bif decide (s.size < 4294967281) then some (cutB s sep) else none
noncomputable def strings_Split (s:ByteArray) (sep:ByteArray):Option (List ByteArray):=bif decide (s.size < 4294967281∧1≤sep.size) then some (splitS s sep) else none
noncomputable def code_line_1 (k:kind) (t1:(List ByteArray)):Option (Bool):=(bif (decide ((0:Int) < (t1.length:Int))) then (some (((decide (k.name = (ix t1 (0:Int)))) && (!decide (k.name = ByteArray.empty))))) else none)
noncomputable def slices_IndexFunc_kind_l1 (s:(List kind)) (f:(List ByteArray)):Int→Option (((Int) ⊕ (Int))):=fun t8q7=>(bif (decide (t8q7 < (s.length:Int))) then (bif ((decide ((0:Int)≤t8q7)) && (decide (t8q7 < (s.length:Int)))) then ((code_line_1 (ix s t8q7) f).bind fun r92=>(bif r92 then (Option.map Sum.inr (some (t8q7))) else (some (Sum.inl ((IntKind.i64.wrap (t8q7+1))))))) else none) else (Option.map Sum.inr (some ((-1)))))
noncomputable def slices_IndexFunc_kind (s:(List kind)) (f:(List ByteArray)):Option (Int):=(loopO (slices_IndexFunc_kind_l1 s f) (0))
noncomputable def code_letter_j1 (k:Int) (t4q3:Bool):Option (ByteArray):=(bif t4q3 then (some (ByteArray.empty)) else (bif (k == 99) then (some ((ByteArray.mk #[64]))) else (bif (k == 109) then (some ((ByteArray.mk #[99]))) else (some ((Utf8.encode (IntKind.i32.wrap k)))))))
noncomputable def code_letter (k:Int):Option (ByteArray):=(bif (k == 110) then (code_letter_j1 k (k == 110)) else (bif (k == 107) then (code_letter_j1 k (k == 107)) else (code_letter_j1 k (k == 45))))
noncomputable def stringslite_HasPrefix (s:ByteArray) (xprefix:ByteArray):Option (Bool):=(bif ((!(decide ((((xprefix).size:Nat):Int)≤(((s).size:Nat):Int)))) || ((decide ((0:Int)≤(((xprefix).size:Nat):Int))) && (decide ((((xprefix).size:Nat):Int)≤(((s).size:Nat):Int))))) then (some (((decide ((((xprefix).size:Nat):Int)≤(((s).size:Nat):Int))) && (decide (((s).extract ((0:Int)).toNat ((((xprefix).size:Nat):Int)).toNat) = xprefix))))) else none)
noncomputable def stringslite_CutPrefix (s:ByteArray) (xprefix:ByteArray):Option (ByteArray×Bool):=((stringslite_HasPrefix s xprefix).bind fun r155=>(bif (!r155) then (some (s,false)) else (bif ((decide ((0:Int)≤(((xprefix).size:Nat):Int))) && (decide ((((xprefix).size:Nat):Int)≤(((s).size:Nat):Int)))) then (some (((s).extract ((((xprefix).size:Nat):Int)).toNat ((((s).size:Nat):Int)).toNat),true)) else none)))
noncomputable def strings_CutPrefix (s:ByteArray) (xprefix:ByteArray):Option (ByteArray×Bool):=((stringslite_CutPrefix s xprefix).bind fun r163=>(some (r163.1,r163.2)))
noncomputable def strconv_Atoi (s:ByteArray):Option (Int):=bif decide (s.size < 4294967281) then some (atoiV s) else none
noncomputable def strconv_Itoa (i:Int):Option (ByteArray):=bif decide (-9223372036854775808≤i∧i≤9223372036854775807) then some (itoaS i) else none
noncomputable def strconv_Atoi_1 (s:ByteArray):Option (Int):=bif decide (s.size < 4294967281) then some (atoiV s) else none
noncomputable def code_line_j1 (op11:Int) (t27q7:Int) (c2_Op11:Int) (c3q20:(List Int)) (c4q24:(List ByteArray)):Option (((Int×Int×Int×(List Int)×(List ByteArray)) ⊕ (GInstr×Bool))):=(some (Sum.inl (op11,(IntKind.i64.wrap (t27q7+1)),c2_Op11,c3q20,c4q24)))
noncomputable def code_line_j2 (op11:Int) (t27q7:Int) (c2_Op11:Int) (c3q18:(List Int)) (c4q22:(List ByteArray)) (n27:Int) (t67q14:Bool):Option (((Int×Int×Int×(List Int)×(List ByteArray)) ⊕ (GInstr×Bool))):=(bif t67q14 then (Option.map Sum.inr (some ((GInstr.mk c2_Op11 0 0),false))) else (bif ((decide ((0:Int)≤t27q7)) && (decide (t27q7 < (c3q18.length:Int)))) then (bif (decide ((1:Int)≤(c4q22.length:Int))) then (code_line_j1 op11 t27q7 c2_Op11 (c3q18.set t27q7.toNat n27) (cut c4q22 (1:Int) (c4q22.length:Int))) else none) else none))
noncomputable def code_line_j3 (op11:Int) (t27q7:Int) (c2_Op11:Int) (c3q18:(List Int)) (c4q22:(List ByteArray)) (n29:Int):Option (((Int×Int×Int×(List Int)×(List ByteArray)) ⊕ (GInstr×Bool))):=(Option.map Sum.inr (some ((GInstr.mk c2_Op11 0 0),false)))
noncomputable def code_line_l1:Int×Int×Int×(List Int)×(List ByteArray)→Option (((Int×Int×Int×(List Int)×(List ByteArray)) ⊕ (GInstr×Bool))):=fun (op11,t27q7,c2_Op11,c3q18,c4q22)=>(bif (decide (t27q7 < 2)) then (bif ((decide ((0:Int)≤op11)) && (decide (op11 < (codeKinds.length:Int)))) then (bif ((decide ((0:Int)≤t27q7)) && (decide (t27q7 < ((((ix codeKinds op11).args).size:Nat):Int)))) then (bif (((((ix codeKinds op11).args).data.getD (t27q7).toNat 0).toNat:Int) == 45) then (code_line_j1 op11 t27q7 c2_Op11 c3q18 c4q22) else (bif ((c4q22.length:Int) == 0) then (Option.map Sum.inr (some ((GInstr.mk c2_Op11 0 0),false))) else (bif (decide ((0:Int) < (c4q22.length:Int))) then ((code_letter ((((ix codeKinds op11).args).data.getD (t27q7).toNat 0).toNat:Int)).bind fun r547=>((strings_CutPrefix (ix c4q22 (0:Int)) r547).bind fun r548=>(bif (atoiK r548.1) then ((strconv_Atoi r548.1).bind fun r551=>(bif (!r548.2) then (code_line_j2 op11 t27q7 c2_Op11 c3q18 c4q22 r551 true) else ((strconv_Itoa r551).bind fun r562=>(code_line_j2 op11 t27q7 c2_Op11 c3q18 c4q22 r551 (!decide (r562 = r548.1)))))) else ((strconv_Atoi_1 r548.1).bind fun r573=>(bif (!r548.2) then (code_line_j3 op11 t27q7 c2_Op11 c3q18 c4q22 r573) else (code_line_j3 op11 t27q7 c2_Op11 c3q18 c4q22 r573)))))) else none))) else none) else none) else (Option.map Sum.inr (bif (decide ((0:Int) < (c3q18.length:Int))) then (bif (decide ((1:Int) < (c3q18.length:Int))) then (some ((GInstr.mk c2_Op11 (ix c3q18 (0:Int)) (ix c3q18 (1:Int))),((c4q22.length:Int) == 0))) else none) else none)))
noncomputable def code_line (s:ByteArray):Option (GInstr×Bool):=((strings_Split s (ByteArray.mk #[32])).bind fun r244=>((slices_IndexFunc_kind codeKinds r244).bind fun r246=>(bif (decide (r246 < 0)) then (some ((GInstr.mk 0 0 0),false)) else (bif (decide ((1:Int)≤(r244.length:Int))) then (loopO code_line_l1 (r246,0,r246,([0,0]:List Int),(cut r244 (1:Int) (r244.length:Int)))) else none))))
noncomputable def code_Parse_l1:ByteArray×Int×(List GInstr)→Option (((ByteArray×Int×(List GInstr)) ⊕ (Fault×(List GInstr)))):=fun (text8,n7,c1q7)=>(bif (!decide (text8 = ByteArray.empty)) then ((strings_Cut text8 (ByteArray.mk #[10])).bind fun r703=>((code_line r703.1).bind fun r705=>(bif ((!r703.2.2) || (!r705.2)) then ((code_fault 1 n7).bind fun r713=>(Option.map Sum.inr (some (r713,[])))) else (bif (decide ((c1q7++([r705.1]:List GInstr)).length * 24≤140737488355328)) then (some (Sum.inl (r703.2.1,(IntKind.i64.wrap (n7+1)),(c1q7++([r705.1]:List GInstr))))) else none)))) else (Option.map Sum.inr (some ((Fault.mk 0 0),c1q7))))
noncomputable def code_Parse (text:ByteArray):Option (Fault×(List GInstr)):=(bif (decide ((20000:Int) < (((text).size:Nat):Int))) then ((code_fault 2 0).bind fun r619=>(some (r619,[]))) else (loopO code_Parse_l1 (text,0,[])))
noncomputable def taskmillref_F (code:Int) (xat:Int):Option (Fault):=(some ((Fault.mk code xat)))
noncomputable def taskmilllaw_ownCode (l:(List GInstr)):Option ((List GInstr)):=(bif (decide (l.length * 24≤140737488355328)) then (some (l)) else none)
noncomputable def taskmilllaw_sameCode_l1 (xa:(List GInstr)) (b:(List GInstr)):Int→Option (((Int) ⊕ (Bool))):=fun i7=>(bif (decide (i7 < (xa.length:Int))) then (bif ((decide ((0:Int)≤i7)) && (decide (i7 < (xa.length:Int)))) then (bif ((decide ((0:Int)≤i7)) && (decide (i7 < (b.length:Int)))) then (bif (!(((ix xa i7).Op == (ix b i7).Op) && (((ix xa i7).A == (ix b i7).A) && (((ix xa i7).B == (ix b i7).B) && true)))) then (Option.map Sum.inr (some (false))) else (some (Sum.inl ((IntKind.i64.wrap (i7+1)))))) else none) else none) else (Option.map Sum.inr (some (true))))
noncomputable def taskmilllaw_sameCode (xa:(List GInstr)) (b:(List GInstr)):Option (Bool):=(bif ((xa.length:Int) != (b.length:Int)) then (some (false)) else (loopO (taskmilllaw_sameCode_l1 xa b) (0)))
noncomputable def taskmilllaw_CodeJoins_j1 (t4q3:Bool):Option (Bool):=(some (t4q3))
noncomputable def taskmilllaw_CodeJoins_j2 (t4q4:Bool):Option (Bool):=(some (t4q4))
noncomputable def taskmilllaw_CodeJoins (xa:ByteArray) (b:ByteArray):Option (Bool):=(taskmilllaw_codeBegun.bind fun r852=>(bif (!r852) then (some (false)) else (bif (decide ((20000:Int) < (IntKind.i64.wrap ((((xa).size:Nat):Int)+(((b).size:Nat):Int))))) then (some (true)) else ((code_Parse xa).bind fun r855=>((code_Parse b).bind fun r857=>(bif (decide ((xa).size+(b).size≤9223372036854775807)) then ((code_Parse (xa++b)).bind fun r863=>(bif ((r855.1.Code != 0) || (r857.1.Code != 0)) then (bif (r855.1.Code != 0) then (bif ((r863.1.Code == r855.1.Code) && ((r863.1.At == r855.1.At) && true)) then (taskmilllaw_CodeJoins_j1 true) else (bif (decide ((0:Int) < (((xa).size:Nat):Int))) then (bif ((decide ((0:Int)≤(IntKind.i64.wrap ((((xa).size:Nat):Int) - 1)))) && (decide ((IntKind.i64.wrap ((((xa).size:Nat):Int) - 1)) < (((xa).size:Nat):Int)))) then (bif ((((xa).data.getD ((IntKind.i64.wrap ((((xa).size:Nat):Int) - 1))).toNat 0).toNat:Int) != 10) then (taskmilllaw_CodeJoins_j1 true) else (bif (r855.1.Code == 0) then ((taskmillref_F r857.1.Code (IntKind.i64.wrap ((r855.2.length:Int)+r857.1.At))).bind fun r904=>(taskmilllaw_CodeJoins_j1 ((r863.1.Code == r904.Code) && ((r863.1.At == r904.At) && true)))) else (taskmilllaw_CodeJoins_j1 false))) else none) else (bif (r855.1.Code == 0) then ((taskmillref_F r857.1.Code (IntKind.i64.wrap ((r855.2.length:Int)+r857.1.At))).bind fun r906=>(taskmilllaw_CodeJoins_j1 ((r863.1.Code == r906.Code) && ((r863.1.At == r906.At) && true)))) else (taskmilllaw_CodeJoins_j1 false)))) else (bif (r855.1.Code == 0) then ((taskmillref_F r857.1.Code (IntKind.i64.wrap ((r855.2.length:Int)+r857.1.At))).bind fun r908=>(taskmilllaw_CodeJoins_j1 ((r863.1.Code == r908.Code) && ((r863.1.At == r908.At) && true)))) else (taskmilllaw_CodeJoins_j1 false))) else (bif (r863.1.Code == 0) then ((taskmilllaw_ownCode r855.2).bind fun r917=>(bif (decide ((r917++r857.2).length * 24≤140737488355328)) then ((taskmilllaw_sameCode r863.2 (r917++r857.2)).bind fun r920=>(taskmilllaw_CodeJoins_j2 r920)) else none)) else (taskmilllaw_CodeJoins_j2 false)))) else none))))))
end Go.Proofs.YtdckaaiidagodaaDoor
