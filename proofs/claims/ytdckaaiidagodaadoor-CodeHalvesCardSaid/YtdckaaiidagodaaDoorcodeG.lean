/-
 What laws of the chapter code compute, and lemmas on it.
 No conditions.
-/
import Derived.Test.YtdckaaiidagodaaDoorcodeA4
set_option linter.unusedSimpArgs false
set_option linter.unusedVariables false
namespace Go.Proofs.YtdckaaiidagodaaDoor
open Go Go.Sx
structure GInstr where
 Op : Int
 A : Int
 B : Int
 deriving Inhabited, DecidableEq
instance : Enc GInstr := ⟨3, fun d => [.v (.int .i64 d.Op), .v (.int .i64 d.A), .v (.int .i64 d.B)], fun _ => rfl, fun _ => rfl, fun _ => by simp only [stL, SV.st, fl_st, Bool.and_self]⟩
@[push_cast] theorem nim_GInstr (xs : List GInstr) : nimL (fl xs) = true := nimL_fl (fun _ => rfl) xs
@[push_cast] theorem sz_GInstr : Enc.sz GInstr = 3 := rfl
@[push_cast] theorem cells_GInstr (d : GInstr) : Enc.cells d = [.v (.int .i64 d.Op), .v (.int .i64 d.A), .v (.int .i64 d.B)] := rfl
@[push_cast] theorem snoc_GInstr (xs : List GInstr) (x0 : Int) (x1 : Int) (x2 : Int) : fl xs ++ [.v (.int .i64 x0), .v (.int .i64 x1), .v (.int .i64 x2)] = fl (xs ++ [GInstr.mk x0 x1 x2]) := by rw [fl_append]; rfl
@[push_cast] theorem ld_GInstr_Op (xs : List GInstr) (i : Int) : (fl xs).getD (i.toNat * 3) (.v (.int .i64 0)) = .v (.int .i64 (ix xs i).Op) := by
 have := fl_ix xs i 0 (by decide) (.v (.int .i64 0) : SV) rfl
 rw [sz_GInstr, Nat.add_zero] at this
 exact this
@[push_cast] theorem ld_GInstr_A (xs : List GInstr) (i : Int) : (fl xs).getD (i.toNat * 3 + 1) (.v (.int .i64 0)) = .v (.int .i64 (ix xs i).A) := by
 have := fl_ix xs i 1 (by decide) (.v (.int .i64 0) : SV) rfl
 rw [sz_GInstr] at this
 exact this
@[push_cast] theorem ld_GInstr_B (xs : List GInstr) (i : Int) : (fl xs).getD (i.toNat * 3 + 2) (.v (.int .i64 0)) = .v (.int .i64 (ix xs i).B) := by
 have := fl_ix xs i 2 (by decide) (.v (.int .i64 0) : SV) rfl
 rw [sz_GInstr] at this
 exact this
structure GProgram where
 Code : (List GInstr)
 Cells : Int
 Pipes : (List Int)
 Locks : Int
 Groups : Int
 deriving Inhabited, DecidableEq
instance : Enc GProgram := ⟨5, fun d => [.sl d.Code.length (fl d.Code), .v (.int .i64 d.Cells), .sl d.Pipes.length (fl d.Pipes), .v (.int .i64 d.Locks), .v (.int .i64 d.Groups)], fun _ => rfl, fun _ => rfl, fun _ => by simp only [stL, SV.st, fl_st, Bool.and_self]⟩
@[push_cast] theorem sz_GProgram : Enc.sz GProgram = 5 := rfl
@[push_cast] theorem cells_GProgram (d : GProgram) : Enc.cells d = [.sl d.Code.length (fl d.Code), .v (.int .i64 d.Cells), .sl d.Pipes.length (fl d.Pipes), .v (.int .i64 d.Locks), .v (.int .i64 d.Groups)] := rfl
@[push_cast] theorem snoc_GProgram (xs : List GProgram) (x0 : (List GInstr)) (x1 : Int) (x2 : (List Int)) (x3 : Int) (x4 : Int) : fl xs ++ [.sl x0.length (fl x0), .v (.int .i64 x1), .sl x2.length (fl x2), .v (.int .i64 x3), .v (.int .i64 x4)] = fl (xs ++ [GProgram.mk x0 x1 x2 x3 x4]) := by rw [fl_append]; rfl
@[push_cast] theorem ld_GProgram_Cells (xs : List GProgram) (i : Int) : (fl xs).getD (i.toNat * 5 + 1) (.v (.int .i64 0)) = .v (.int .i64 (ix xs i).Cells) := by
 have := fl_ix xs i 1 (by decide) (.v (.int .i64 0) : SV) rfl
 rw [sz_GProgram] at this
 exact this
@[push_cast] theorem ld_GProgram_Locks (xs : List GProgram) (i : Int) : (fl xs).getD (i.toNat * 5 + 3) (.v (.int .i64 0)) = .v (.int .i64 (ix xs i).Locks) := by
 have := fl_ix xs i 3 (by decide) (.v (.int .i64 0) : SV) rfl
 rw [sz_GProgram] at this
 exact this
@[push_cast] theorem ld_GProgram_Groups (xs : List GProgram) (i : Int) : (fl xs).getD (i.toNat * 5 + 4) (.v (.int .i64 0)) = .v (.int .i64 (ix xs i).Groups) := by
 have := fl_ix xs i 4 (by decide) (.v (.int .i64 0) : SV) rfl
 rw [sz_GProgram] at this
 exact this
structure Fault where
 Code : Int
 At : Int
 deriving Inhabited, DecidableEq
instance : Enc Fault := ⟨2, fun d => [.v (.int .i64 d.Code), .v (.int .i64 d.At)], fun _ => rfl, fun _ => rfl, fun _ => by simp only [stL, SV.st, fl_st, Bool.and_self]⟩
@[push_cast] theorem nim_Fault (xs : List Fault) : nimL (fl xs) = true := nimL_fl (fun _ => rfl) xs
@[push_cast] theorem sz_Fault : Enc.sz Fault = 2 := rfl
@[push_cast] theorem cells_Fault (d : Fault) : Enc.cells d = [.v (.int .i64 d.Code), .v (.int .i64 d.At)] := rfl
@[push_cast] theorem snoc_Fault (xs : List Fault) (x0 : Int) (x1 : Int) : fl xs ++ [.v (.int .i64 x0), .v (.int .i64 x1)] = fl (xs ++ [Fault.mk x0 x1]) := by rw [fl_append]; rfl
@[push_cast] theorem ld_Fault_Code (xs : List Fault) (i : Int) : (fl xs).getD (i.toNat * 2) (.v (.int .i64 0)) = .v (.int .i64 (ix xs i).Code) := by
 have := fl_ix xs i 0 (by decide) (.v (.int .i64 0) : SV) rfl
 rw [sz_Fault, Nat.add_zero] at this
 exact this
@[push_cast] theorem ld_Fault_At (xs : List Fault) (i : Int) : (fl xs).getD (i.toNat * 2 + 1) (.v (.int .i64 0)) = .v (.int .i64 (ix xs i).At) := by
 have := fl_ix xs i 1 (by decide) (.v (.int .i64 0) : SV) rfl
 rw [sz_Fault] at this
 exact this
structure kind where
 name : ByteArray
 args : ByteArray
 deriving Inhabited, DecidableEq
instance : Enc kind := ⟨2, fun d => [.v (.string d.name), .v (.string d.args)], fun _ => rfl, fun _ => rfl, fun _ => by simp only [stL, SV.st, fl_st, Bool.and_self]⟩
@[push_cast] theorem nim_kind (xs : List kind) : nimL (fl xs) = true := nimL_fl (fun _ => rfl) xs
@[push_cast] theorem sz_kind : Enc.sz kind = 2 := rfl
@[push_cast] theorem cells_kind (d : kind) : Enc.cells d = [.v (.string d.name), .v (.string d.args)] := rfl
@[push_cast] theorem snoc_kind (xs : List kind) (x0 : ByteArray) (x1 : ByteArray) : fl xs ++ [.v (.string x0), .v (.string x1)] = fl (xs ++ [kind.mk x0 x1]) := by rw [fl_append]; rfl
def codeKinds : List kind := [⟨⟨#[]⟩, ⟨#[]⟩⟩, ⟨⟨#[115, 101, 116]⟩, ⟨#[114, 110]⟩⟩, ⟨⟨#[99, 111, 112, 121]⟩, ⟨#[114, 114]⟩⟩, ⟨⟨#[97, 100, 100]⟩, ⟨#[114, 114]⟩⟩, ⟨⟨#[115, 117, 98]⟩, ⟨#[114, 114]⟩⟩, ⟨⟨#[108, 101, 115, 115]⟩, ⟨#[114, 114]⟩⟩, ⟨⟨#[106, 117, 109, 112]⟩, ⟨#[99, 45]⟩⟩, ⟨⟨#[122, 101, 114, 111]⟩, ⟨#[114, 99]⟩⟩, ⟨⟨#[112, 114, 105, 110, 116]⟩, ⟨#[114, 45]⟩⟩, ⟨⟨#[101, 110, 100]⟩, ⟨#[45, 45]⟩⟩, ⟨⟨#[121, 105, 101, 108, 100]⟩, ⟨#[45, 45]⟩⟩, ⟨⟨#[103, 111]⟩, ⟨#[99, 114]⟩⟩, ⟨⟨#[108, 111, 97, 100]⟩, ⟨#[114, 109]⟩⟩, ⟨⟨#[115, 116, 111, 114, 101]⟩, ⟨#[109, 114]⟩⟩, ⟨⟨#[115, 101, 110, 100]⟩, ⟨#[112, 114]⟩⟩, ⟨⟨#[103, 101, 116]⟩, ⟨#[114, 112]⟩⟩, ⟨⟨#[115, 104, 117, 116]⟩, ⟨#[112, 45]⟩⟩, ⟨⟨#[108, 111, 99, 107]⟩, ⟨#[108, 107]⟩⟩, ⟨⟨#[117, 110, 108, 111, 99, 107]⟩, ⟨#[108, 107]⟩⟩, ⟨⟨#[99, 111, 117, 110, 116]⟩, ⟨#[103, 114]⟩⟩, ⟨⟨#[119, 97, 105, 116]⟩, ⟨#[103, 45]⟩⟩, ⟨⟨#[115, 108, 101, 101, 112]⟩, ⟨#[114, 45]⟩⟩, ⟨⟨#[112, 97, 110, 105, 99]⟩, ⟨#[45, 45]⟩⟩]
def refArgs : List ByteArray := [⟨#[]⟩, ⟨#[114, 110]⟩, ⟨#[114, 114]⟩, ⟨#[114, 114]⟩, ⟨#[114, 114]⟩, ⟨#[114, 114]⟩, ⟨#[99, 45]⟩, ⟨#[114, 99]⟩, ⟨#[114, 45]⟩, ⟨#[45, 45]⟩, ⟨#[45, 45]⟩, ⟨#[99, 114]⟩, ⟨#[114, 109]⟩, ⟨#[109, 114]⟩, ⟨#[112, 114]⟩, ⟨#[114, 112]⟩, ⟨#[112, 45]⟩, ⟨#[108, 107]⟩, ⟨#[108, 107]⟩, ⟨#[103, 114]⟩, ⟨#[103, 45]⟩, ⟨#[114, 45]⟩, ⟨#[45, 45]⟩]
noncomputable def taskmilllaw_codeBegun : Option (Bool) := some true
noncomputable def taskmilllaw_vastProgram (p : GProgram) : Option (Bool) := (some (((decide ((2000 : Int) < ((p.Code.length : Nat) : Int))) || (decide ((2000 : Int) < ((p.Pipes.length : Nat) : Int))))))
noncomputable def code_fault (code : Int) (xat : Int) : Option (Fault) := (some ((Fault.mk code xat)))
noncomputable def code_fits (p : GProgram) (k : Int) (x : Int) : Option (Bool) := (bif (k == 110) then (some (true)) else (some (((decide ((0 : Int) ≤ x)) && (decide (x < (miGet [(114, 8), (99, ((p.Code.length : Nat) : Int)), (109, p.Cells), (112, ((p.Pipes.length : Nat) : Int)), (108, p.Locks), (103, p.Groups), (107, 2), (45, 1)] k)))))))
noncomputable def code_Check_j1 (p : GProgram) (t58q7 : Int) (t93q13 : Bool) : Option (((Int) ⊕ (Fault))) := (bif t93q13 then ((code_fault 5 t58q7).bind fun r431 => (Option.map Sum.inr (some (r431)))) else (some (Sum.inl ((IntKind.i64.wrap (t58q7 + 1))))))
noncomputable def code_Check_l1 (p : GProgram) : Int → Option (((Int) ⊕ (Fault))) := fun t58q7 => (bif (decide (t58q7 < ((p.Code.length : Nat) : Int))) then (bif ((decide ((0 : Int) ≤ t58q7)) && (decide (t58q7 < ((p.Code.length : Nat) : Int)))) then (bif ((decide ((ix p.Code t58q7).Op < 1)) || (decide ((23 : Int) ≤ (ix p.Code t58q7).Op))) then ((code_fault 4 t58q7).bind fun r409 => (Option.map Sum.inr (some (r409)))) else (bif ((decide ((0 : Int) ≤ (ix p.Code t58q7).Op)) && (decide ((ix p.Code t58q7).Op < ((codeKinds.length : Nat) : Int)))) then (bif (decide ((0 : Int) < ((((ix codeKinds (ix p.Code t58q7).Op).args).size : Nat) : Int))) then ((code_fits p ((((ix codeKinds (ix p.Code t58q7).Op).args).data.getD ((0 : Int)).toNat 0).toNat : Int) (ix p.Code t58q7).A).bind fun r425 => (bif (!r425) then (code_Check_j1 p t58q7 true) else (bif (decide ((1 : Int) < ((((ix codeKinds (ix p.Code t58q7).Op).args).size : Nat) : Int))) then ((code_fits p ((((ix codeKinds (ix p.Code t58q7).Op).args).data.getD ((1 : Int)).toNat 0).toNat : Int) (ix p.Code t58q7).B).bind fun r429 => (code_Check_j1 p t58q7 (!r429))) else none))) else none) else none)) else none) else (Option.map Sum.inr (some ((Fault.mk 0 0)))))
noncomputable def code_Check_l2 (p : GProgram) : Int → Option (((Int) ⊕ (Fault))) := fun t41q7 => (bif (decide (t41q7 < ((p.Pipes.length : Nat) : Int))) then (bif ((decide ((0 : Int) ≤ t41q7)) && (decide (t41q7 < ((p.Pipes.length : Nat) : Int)))) then (bif ((decide ((ix p.Pipes t41q7) < 0)) || (decide ((100 : Int) < (ix p.Pipes t41q7)))) then ((code_fault 8 t41q7).bind fun r204 => (Option.map Sum.inr (some (r204)))) else (some (Sum.inl ((IntKind.i64.wrap (t41q7 + 1)))))) else none) else (Option.map Sum.inr (loopO (code_Check_l1 p) (0))))
noncomputable def code_Check (p : GProgram) : Option (Fault) := (bif ((decide ((1000 : Int) < ((p.Code.length : Nat) : Int))) || (decide ((20 : Int) < ((p.Pipes.length : Nat) : Int)))) then ((code_fault 2 0).bind fun r125 => (some (r125))) else (bif ((decide ((min (min p.Cells p.Locks) p.Groups) < 0)) || (decide ((20 : Int) < (max (max p.Cells p.Locks) p.Groups)))) then ((code_fault 3 0).bind fun r133 => (some (r133))) else (loopO (code_Check_l2 p) (0))))
noncomputable def code_Local (op : Int) : Option (Bool) := (some (((decide ((1 : Int) ≤ op)) && (decide (op ≤ 7)))))
noncomputable def code_Do_1_j1 (pc : Int) (c0q4 : (VArr 8)) : Option (Int × (VArr 8)) := (some ((IntKind.i64.wrap (pc + 1)), c0q4))
noncomputable def code_Do_1 (c : GInstr) (pc : Int) (c0 : (VArr 8)) : Option (Int × (VArr 8)) := (bif (c.Op == 1) then (bif ((decide ((0 : Int) ≤ c.A)) && (decide (c.A < ((8 : Nat) : Int)))) then (code_Do_1_j1 pc (c0.set c.A c.B)) else none) else (bif (c.Op == 2) then (bif ((decide ((0 : Int) ≤ c.B)) && (decide (c.B < ((8 : Nat) : Int)))) then (bif ((decide ((0 : Int) ≤ c.A)) && (decide (c.A < ((8 : Nat) : Int)))) then (code_Do_1_j1 pc (c0.set c.A (c0.get c.B))) else none) else none) else (bif (c.Op == 3) then (bif ((decide ((0 : Int) ≤ c.A)) && (decide (c.A < ((8 : Nat) : Int)))) then (bif ((decide ((0 : Int) ≤ c.B)) && (decide (c.B < ((8 : Nat) : Int)))) then (code_Do_1_j1 pc (c0.set c.A (IntKind.i64.wrap ((c0.get c.A) + (c0.get c.B))))) else none) else none) else (bif (c.Op == 4) then (bif ((decide ((0 : Int) ≤ c.A)) && (decide (c.A < ((8 : Nat) : Int)))) then (bif ((decide ((0 : Int) ≤ c.B)) && (decide (c.B < ((8 : Nat) : Int)))) then (code_Do_1_j1 pc (c0.set c.A (IntKind.i64.wrap ((c0.get c.A) - (c0.get c.B))))) else none) else none) else (bif (c.Op == 5) then (bif ((decide ((0 : Int) ≤ c.A)) && (decide (c.A < ((8 : Nat) : Int)))) then (bif ((decide ((0 : Int) ≤ c.B)) && (decide (c.B < ((8 : Nat) : Int)))) then (code_Do_1_j1 pc (c0.set c.A (mbGet [(true, 1)] (decide ((c0.get c.A) < (c0.get c.B)))))) else none) else none) else (bif (c.Op == 6) then (some (c.A, c0)) else (bif (c.Op == 7) then (bif ((decide ((0 : Int) ≤ c.A)) && (decide (c.A < ((8 : Nat) : Int)))) then (bif ((c0.get c.A) == 0) then (some (c.B, c0)) else (code_Do_1_j1 pc c0)) else none) else (code_Do_1_j1 pc c0))))))))
noncomputable def code_Run_j1 (p : GProgram) (fuel : Int) (pc8 : Int) (n7 : Int) (c1q7 : (VArr 8)) (t58q12 : Bool) : Option (((Int × Int × (VArr 8)) ⊕ (Int × (VArr 8) × Int × Fault))) := (bif t58q12 then (bif ((decide ((0 : Int) ≤ pc8)) && (decide (pc8 < ((p.Code.length : Nat) : Int)))) then ((code_Do_1 (ix p.Code pc8) pc8 c1q7).bind fun r758 => (some (Sum.inl (r758.1, (IntKind.i64.wrap (n7 + 1)), r758.2)))) else none) else (Option.map Sum.inr (some (pc8, c1q7, n7, (Fault.mk 0 0)))))
noncomputable def code_Run_l1 (p : GProgram) (fuel : Int) : Int × Int × (VArr 8) → Option (((Int × Int × (VArr 8)) ⊕ (Int × (VArr 8) × Int × Fault))) := fun (pc8, n7, c1q7) => (bif (decide (n7 < fuel)) then (bif (decide (pc8 < ((p.Code.length : Nat) : Int))) then (bif ((decide ((0 : Int) ≤ pc8)) && (decide (pc8 < ((p.Code.length : Nat) : Int)))) then ((code_Local (ix p.Code pc8).Op).bind fun r752 => (code_Run_j1 p fuel pc8 n7 c1q7 r752)) else none) else (code_Run_j1 p fuel pc8 n7 c1q7 false)) else (code_Run_j1 p fuel pc8 n7 c1q7 false))
noncomputable def code_Run (p : GProgram) (pc : Int) (regs : (VArr 8)) (fuel : Int) : Option (Int × (VArr 8) × Int × Fault) := ((code_Check p).bind fun r627 => (bif (r627.Code != 0) then (some (0, (default : (VArr 8)), 0, r627)) else (bif ((decide (pc < 0)) || ((decide (((p.Code.length : Nat) : Int) < pc)) || ((decide (fuel < 0)) || (decide ((5000 : Int) < fuel))))) then ((code_fault 3 (-1)).bind fun r641 => (some (0, (default : (VArr 8)), 0, r641))) else (loopO (code_Run_l1 p fuel) (pc, 0, regs)))))
noncomputable def taskmillref_F (code : Int) (xat : Int) : Option (Fault) := (some ((Fault.mk code xat)))
noncomputable def taskmillref_ArgOk_j1 (x : Int) (n2 : Int) : Option (Bool) := (some (((decide ((0 : Int) ≤ x)) && (decide (x < n2)))))
noncomputable def taskmillref_ArgOk (p : GProgram) (k : Int) (x : Int) : Option (Bool) := (bif (k == 110) then (some (true)) else (bif (k == 114) then (taskmillref_ArgOk_j1 x 8) else (bif (k == 99) then (taskmillref_ArgOk_j1 x ((p.Code.length : Nat) : Int)) else (bif (k == 109) then (taskmillref_ArgOk_j1 x p.Cells) else (bif (k == 112) then (taskmillref_ArgOk_j1 x ((p.Pipes.length : Nat) : Int)) else (bif (k == 108) then (taskmillref_ArgOk_j1 x p.Locks) else (bif (k == 103) then (taskmillref_ArgOk_j1 x p.Groups) else (bif (k == 107) then (taskmillref_ArgOk_j1 x 2) else (taskmillref_ArgOk_j1 x 1)))))))))
noncomputable def taskmillref_ProgramFault_j1 (p : GProgram) (i15 : Int) (t114q13 : Bool) : Option (((Int) ⊕ (Fault))) := (bif t114q13 then ((taskmillref_F 5 i15).bind fun r1277 => (Option.map Sum.inr (some (r1277)))) else (some (Sum.inl ((IntKind.i64.wrap (i15 + 1))))))
noncomputable def taskmillref_ProgramFault_l1 (p : GProgram) : Int → Option (((Int) ⊕ (Fault))) := fun i15 => (bif (decide (i15 < ((p.Code.length : Nat) : Int))) then (bif ((decide ((0 : Int) ≤ i15)) && (decide (i15 < ((p.Code.length : Nat) : Int)))) then (bif ((decide ((ix p.Code i15).Op < 1)) || (decide ((22 : Int) < (ix p.Code i15).Op))) then ((taskmillref_F 4 i15).bind fun r1251 => (Option.map Sum.inr (some (r1251)))) else (bif ((decide ((0 : Int) ≤ (ix p.Code i15).Op)) && (decide ((ix p.Code i15).Op < ((refArgs.length : Nat) : Int)))) then (bif (decide ((0 : Int) < ((((ix refArgs (ix p.Code i15).Op)).size : Nat) : Int))) then ((taskmillref_ArgOk p ((((ix refArgs (ix p.Code i15).Op)).data.getD ((0 : Int)).toNat 0).toNat : Int) (ix p.Code i15).A).bind fun r1269 => (bif (!r1269) then (taskmillref_ProgramFault_j1 p i15 true) else (bif ((decide ((0 : Int) ≤ (ix p.Code i15).Op)) && (decide ((ix p.Code i15).Op < ((refArgs.length : Nat) : Int)))) then (bif (decide ((1 : Int) < ((((ix refArgs (ix p.Code i15).Op)).size : Nat) : Int))) then ((taskmillref_ArgOk p ((((ix refArgs (ix p.Code i15).Op)).data.getD ((1 : Int)).toNat 0).toNat : Int) (ix p.Code i15).B).bind fun r1275 => (taskmillref_ProgramFault_j1 p i15 (!r1275))) else none) else none))) else none) else none)) else none) else (Option.map Sum.inr (some ((Fault.mk 0 0)))))
noncomputable def taskmillref_Did_j1 (pc : Int) (c0q2 : (VArr 8)) : Option (Int × (VArr 8)) := (some ((IntKind.i64.wrap (pc + 1)), c0q2))
noncomputable def taskmillref_Did (c : GInstr) (pc : Int) (xr : (VArr 8)) : Option (Int × (VArr 8)) := (bif (c.Op == 1) then (bif ((decide ((0 : Int) ≤ c.A)) && (decide (c.A < ((8 : Nat) : Int)))) then (taskmillref_Did_j1 pc (xr.set c.A c.B)) else none) else (bif (c.Op == 2) then (bif ((decide ((0 : Int) ≤ c.B)) && (decide (c.B < ((8 : Nat) : Int)))) then (bif ((decide ((0 : Int) ≤ c.A)) && (decide (c.A < ((8 : Nat) : Int)))) then (taskmillref_Did_j1 pc (xr.set c.A (xr.get c.B))) else none) else none) else (bif (c.Op == 3) then (bif ((decide ((0 : Int) ≤ c.A)) && (decide (c.A < ((8 : Nat) : Int)))) then (bif ((decide ((0 : Int) ≤ c.B)) && (decide (c.B < ((8 : Nat) : Int)))) then (taskmillref_Did_j1 pc (xr.set c.A (IntKind.i64.wrap ((xr.get c.A) + (xr.get c.B))))) else none) else none) else (bif (c.Op == 4) then (bif ((decide ((0 : Int) ≤ c.A)) && (decide (c.A < ((8 : Nat) : Int)))) then (bif ((decide ((0 : Int) ≤ c.B)) && (decide (c.B < ((8 : Nat) : Int)))) then (taskmillref_Did_j1 pc (xr.set c.A (IntKind.i64.wrap ((xr.get c.A) - (xr.get c.B))))) else none) else none) else (bif (c.Op == 5) then (bif ((decide ((0 : Int) ≤ c.A)) && (decide (c.A < ((8 : Nat) : Int)))) then (bif ((decide ((0 : Int) ≤ c.B)) && (decide (c.B < ((8 : Nat) : Int)))) then (bif (decide ((xr.get c.A) < (xr.get c.B))) then (taskmillref_Did_j1 pc (xr.set c.A 1)) else (taskmillref_Did_j1 pc (xr.set c.A 0))) else none) else none) else (bif (c.Op == 6) then (some (c.A, xr)) else (bif (c.Op == 7) then (bif ((decide ((0 : Int) ≤ c.A)) && (decide (c.A < ((8 : Nat) : Int)))) then (bif ((xr.get c.A) == 0) then (some (c.B, xr)) else (taskmillref_Did_j1 pc xr)) else none) else (taskmillref_Did_j1 pc xr))))))))
noncomputable def taskmilllaw_CodeHalves_j1 (p : GProgram) (pc : Int) (regs : (VArr 8)) (m : Int) (n : Int) (t41q2 : Bool) : Option (Bool) := (bif t41q2 then (some (true)) else ((code_Run p pc regs m).bind fun r1771 => (bif (r1771.2.2.2.Code != 0) then (some (true)) else ((code_Run p r1771.1 r1771.2.1 n).bind fun r1774 => ((code_Run p pc regs (IntKind.i64.wrap (m + n))).bind fun r1776 => (bif ((r1774.2.2.2.Code != 0) || ((r1776.2.2.2.Code != 0) || ((r1774.1 != r1776.1) || ((!((r1774.2.1.c0 == r1776.2.1.c0) && ((r1774.2.1.c1 == r1776.2.1.c1) && ((r1774.2.1.c2 == r1776.2.1.c2) && ((r1774.2.1.c3 == r1776.2.1.c3) && ((r1774.2.1.c4 == r1776.2.1.c4) && ((r1774.2.1.c5 == r1776.2.1.c5) && ((r1774.2.1.c6 == r1776.2.1.c6) && ((r1774.2.1.c7 == r1776.2.1.c7) && true))))))))) || (((IntKind.i64.wrap (r1771.2.2.1 + r1774.2.2.1)) != r1776.2.2.1) || ((decide (m < r1771.2.2.1)) || (decide ((IntKind.i64.wrap (m + n)) < r1776.2.2.1)))))))) then (some (false)) else (bif ((!((((!(r1776.2.2.1 == (IntKind.i64.wrap (m + n)))) && (!(r1776.1 == ((p.Code.length : Nat) : Int)))) && (decide ((0 : Int) ≤ r1776.1))) && (decide (r1776.1 < ((p.Code.length : Nat) : Int))))) || ((decide ((0 : Int) ≤ r1776.1)) && (decide (r1776.1 < ((p.Code.length : Nat) : Int))))) then (some (((r1776.2.2.1 == (IntKind.i64.wrap (m + n))) || ((r1776.1 == ((p.Code.length : Nat) : Int)) || ((decide ((0 : Int) ≤ r1776.1)) && ((decide (r1776.1 < ((p.Code.length : Nat) : Int))) && (decide ((7 : Int) < (ix p.Code r1776.1).Op)))))))) else none)))))))
noncomputable def taskmilllaw_CodeHalves (p : GProgram) (pc : Int) (regs : (VArr 8)) (m : Int) (n : Int) : Option (Bool) := (taskmilllaw_codeBegun.bind fun r1749 => (bif (!r1749) then (some (false)) else ((taskmilllaw_vastProgram p).bind fun r1765 => (bif r1765 then (taskmilllaw_CodeHalves_j1 p pc regs m n true) else (bif (decide (m < 0)) then (taskmilllaw_CodeHalves_j1 p pc regs m n true) else (bif (decide (n < 0)) then (taskmilllaw_CodeHalves_j1 p pc regs m n true) else (bif (decide ((2000 : Int) < m)) then (taskmilllaw_CodeHalves_j1 p pc regs m n true) else (taskmilllaw_CodeHalves_j1 p pc regs m n (decide ((2000 : Int) < n))))))))))
end Go.Proofs.YtdckaaiidagodaaDoor
