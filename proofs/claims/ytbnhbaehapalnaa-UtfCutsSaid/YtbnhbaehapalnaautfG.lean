/-
  What laws of the chapter utf compute, and lemmas on it.
  No conditions.
-/
import Derived.Test.YtbnhbaehapalnaaGH
set_option linter.unusedSimpArgs false
set_option linter.unusedVariables false
namespace Go.Proofs.Ytbnhbaehapalnaa
open Go Go.Sx
structure Ki32 where
  v : Int
  deriving Inhabited, DecidableEq
instance : Enc Ki32 := ⟨1, fun x => [.v (.int .i32 x.v)], fun _ => rfl, fun _ => rfl, fun _ => rfl⟩
@[push_cast] theorem nim_Ki32 (xs : List Ki32) : nimL (fl xs) = true := nimL_fl (fun _ => rfl) xs
@[push_cast] theorem sz_Ki32 : Enc.sz Ki32 = 1 := rfl
@[push_cast] theorem cells_Ki32 (x : Ki32) : Enc.cells x = [.v (.int .i32 x.v)] := rfl
@[push_cast] theorem snoc_Ki32 (xs : List Ki32) (a : Int) : fl xs ++ [.v (.int .i32 a)] = fl (xs ++ [Ki32.mk a]) := by rw [fl_append]; rfl
@[push_cast] theorem ld_Ki32 (xs : List Ki32) (i : Int) : (fl xs).getD i.toNat (.v (.int .i32 0)) = .v (.int .i32 (ix xs i).v) := by
  have := fl_ix xs i 0 (by decide) (SV.v (.int .i32 0)) rfl
  rw [Nat.add_zero, show Enc.sz Ki32 = 1 from rfl, Nat.mul_one] at this
  exact this
/-- api.Fault = taskmill/api.Fault -/
structure Fault where
  Code : Int
  At : Int
  deriving Inhabited, DecidableEq
instance : Enc Fault := ⟨2, fun d => [.v (.int .i64 d.Code), .v (.int .i64 d.At)], fun _ => rfl, fun _ => rfl, fun _ => by simp only [stL, SV.st, fl_st, Bool.and_self]⟩
@[push_cast] theorem nim_Fault (xs : List Fault) : nimL (fl xs) = true := nimL_fl (fun _ => rfl) xs
@[push_cast] theorem sz_Fault : Enc.sz Fault = 2 := rfl
@[push_cast] theorem cells_Fault (d : Fault) : Enc.cells d = [.v (.int .i64 d.Code), .v (.int .i64 d.At)] := rfl
@[push_cast] theorem snoc_Fault (xs : List Fault) (x0 : Int) (x1 : Int) : fl xs ++ [.v (.int .i64 x0), .v (.int .i64 x1)] = fl (xs ++ [Fault.mk x0 x1]) := by rw [fl_append]; rfl
@[push_cast] theorem ld_Fault_Code (xs : List Fault) (i : Int) : (fl xs).getD (i.toNat * 2) (.v (.int .i64 0)) = .v (.int .i64 (ix xs i).Code) := by
  have := fl_ix xs i 0 (by decide) (.v (.int .i64 0) : SV) rfl
  rw [sz_Fault, Nat.add_zero] at this
  exact this
@[push_cast] theorem ld_Fault_At (xs : List Fault) (i : Int) : (fl xs).getD (i.toNat * 2 + 1) (.v (.int .i64 0)) = .v (.int .i64 (ix xs i).At) := by
  have := fl_ix xs i 1 (by decide) (.v (.int .i64 0) : SV) rfl
  rw [sz_Fault] at this
  exact this
/-- [2]int -/
structure S39 where
  e0 : Int
  e1 : Int
  deriving Inhabited, DecidableEq
instance : Enc S39 := ⟨2, fun d => [.v (.int .i64 d.e0), .v (.int .i64 d.e1)], fun _ => rfl, fun _ => rfl, fun _ => by simp only [stL, SV.st, fl_st, Bool.and_self]⟩
@[push_cast] theorem nim_S39 (xs : List S39) : nimL (fl xs) = true := nimL_fl (fun _ => rfl) xs
@[push_cast] theorem sz_S39 : Enc.sz S39 = 2 := rfl
@[push_cast] theorem cells_S39 (d : S39) : Enc.cells d = [.v (.int .i64 d.e0), .v (.int .i64 d.e1)] := rfl
@[push_cast] theorem snoc_S39 (xs : List S39) (x0 : Int) (x1 : Int) : fl xs ++ [.v (.int .i64 x0), .v (.int .i64 x1)] = fl (xs ++ [S39.mk x0 x1]) := by rw [fl_append]; rfl
@[push_cast] theorem ld_S39_e0 (xs : List S39) (i : Int) : (fl xs).getD (i.toNat * 2) (.v (.int .i64 0)) = .v (.int .i64 (ix xs i).e0) := by
  have := fl_ix xs i 0 (by decide) (.v (.int .i64 0) : SV) rfl
  rw [sz_S39, Nat.add_zero] at this
  exact this
@[push_cast] theorem ld_S39_e1 (xs : List S39) (i : Int) : (fl xs).getD (i.toNat * 2 + 1) (.v (.int .i64 0)) = .v (.int .i64 (ix xs i).e1) := by
  have := fl_ix xs i 1 (by decide) (.v (.int .i64 0) : SV) rfl
  rw [sz_S39] at this
  exact this
noncomputable def utf_fault (code : Int) (xat : Int) : Option (Fault) := (some ((Fault.mk code xat)))
noncomputable def utf_Range_l1 (text : ByteArray) : (List S39) × Nat → Option ((((List S39) × Nat) ⊕ (Fault × (List S39)))) := fun (c1q7, c2q7) => (bif (decide (c2q7 < text.size)) then (bif (decide ((c1q7 ++ ([(S39.mk ((c2q7 : Nat) : Int) (IntKind.i64.wrap (((Utf8.decode text c2q7).1 : Nat) : Int)))] : List S39)).length * 16 ≤ 140737488355328)) then (some (Sum.inl ((c1q7 ++ ([(S39.mk ((c2q7 : Nat) : Int) (IntKind.i64.wrap (((Utf8.decode text c2q7).1 : Nat) : Int)))] : List S39)), (c2q7 + (Utf8.decode text c2q7).2)))) else none) else (Option.map Sum.inr (some ((Fault.mk 0 0), c1q7))))
noncomputable def utf_Range (text : ByteArray) : Option (Fault × (List S39)) := (bif (decide ((20000 : Int) < (((text).size : Nat) : Int))) then ((utf_fault 2 0).bind fun r16 => (some (r16, []))) else (loopO (utf_Range_l1 text) ([], 0)))
noncomputable def taskmillref_SameOff_l1 (xa : (List S39)) (b : (List S39)) : Int → Option (((Int) ⊕ (Bool))) := fun i7 => (bif (decide (i7 < ((xa.length : Nat) : Int))) then (bif ((decide ((0 : Int) ≤ i7)) && (decide (i7 < ((xa.length : Nat) : Int)))) then (bif ((decide ((0 : Int) ≤ i7)) && (decide (i7 < ((b.length : Nat) : Int)))) then (bif (!(((ix xa i7).e0 == (ix b i7).e0) && (((ix xa i7).e1 == (ix b i7).e1) && true))) then (Option.map Sum.inr (some (false))) else (some (Sum.inl ((IntKind.i64.wrap (i7 + 1)))))) else none) else none) else (Option.map Sum.inr (some (true))))
noncomputable def taskmillref_SameOff (xa : (List S39)) (b : (List S39)) : Option (Bool) := (bif (((xa.length : Nat) : Int) != ((b.length : Nat) : Int)) then (some (false)) else (loopO (taskmillref_SameOff_l1 xa b) (0)))
noncomputable def taskmilllaw_utfBegun_j1 (t0q1 : Bool) : Option (Bool) := (some (t0q1))
noncomputable def taskmilllaw_utfBegun : Option (Bool) := ((utf_Range (ByteArray.mk #[195, 164, 255])).bind fun r150 => (bif (r150.1.Code == 0) then ((taskmillref_SameOff r150.2 ([(S39.mk 0 228), (S39.mk 2 65533)] : List S39)).bind fun r156 => (taskmilllaw_utfBegun_j1 r156)) else (taskmilllaw_utfBegun_j1 false)))
noncomputable def utf_Cut_l1 (text : ByteArray) (xfrom : Int) (to : Int) : (List Int) × Nat → Option ((((List Int) × Nat) ⊕ (ByteArray × Fault))) := fun (c1q7, c2q7) => (bif (decide (c2q7 < text.size)) then (bif (decide ((c1q7 ++ ([((c2q7 : Nat) : Int)] : List Int)).length * 8 ≤ 140737488355328)) then (some (Sum.inl ((c1q7 ++ ([((c2q7 : Nat) : Int)] : List Int)), (c2q7 + (Utf8.decode text c2q7).2)))) else none) else (Option.map Sum.inr (bif (decide ((c1q7 ++ ([(((text).size : Nat) : Int)] : List Int)).length * 8 ≤ 140737488355328)) then (bif ((decide (xfrom < 0)) || ((decide (to < xfrom)) || (decide ((((c1q7 ++ ([(((text).size : Nat) : Int)] : List Int)).length : Nat) : Int) ≤ to)))) then ((utf_fault 3 0).bind fun r239 => (some (ByteArray.empty, r239))) else (bif ((decide ((0 : Int) ≤ xfrom)) && (decide (xfrom < (((c1q7 ++ ([(((text).size : Nat) : Int)] : List Int)).length : Nat) : Int)))) then (bif ((decide ((0 : Int) ≤ to)) && (decide (to < (((c1q7 ++ ([(((text).size : Nat) : Int)] : List Int)).length : Nat) : Int)))) then (bif (((decide ((0 : Int) ≤ (ix (c1q7 ++ ([(((text).size : Nat) : Int)] : List Int)) xfrom))) && (decide ((ix (c1q7 ++ ([(((text).size : Nat) : Int)] : List Int)) xfrom) ≤ (ix (c1q7 ++ ([(((text).size : Nat) : Int)] : List Int)) to)))) && (decide ((ix (c1q7 ++ ([(((text).size : Nat) : Int)] : List Int)) to) ≤ (((text).size : Nat) : Int)))) then (some (((text).extract ((ix (c1q7 ++ ([(((text).size : Nat) : Int)] : List Int)) xfrom)).toNat ((ix (c1q7 ++ ([(((text).size : Nat) : Int)] : List Int)) to)).toNat), (Fault.mk 0 0))) else none) else none) else none)) else none)))
noncomputable def utf_Cut (text : ByteArray) (xfrom : Int) (to : Int) : Option (ByteArray × Fault) := (bif (decide ((20000 : Int) < (((text).size : Nat) : Int))) then ((utf_fault 2 0).bind fun r192 => (some (ByteArray.empty, r192))) else (loopO (utf_Cut_l1 text xfrom to) ([], 0)))
noncomputable def taskmilllaw_UtfCuts (text : ByteArray) (xa : Int) (b : Int) : Option (Bool) := (taskmilllaw_utfBegun.bind fun r270 => (bif (!r270) then (some (false)) else (bif (decide ((20000 : Int) < (((text).size : Nat) : Int))) then (some (true)) else ((utf_Range text).bind fun r273 => (bif ((r273.1.Code != 0) || ((decide (xa < 0)) || ((decide (b < xa)) || (decide (((r273.2.length : Nat) : Int) < b))))) then (some ((r273.1.Code == 0))) else ((utf_Cut text 0 xa).bind fun r286 => ((utf_Cut text xa b).bind fun r288 => ((utf_Cut text b ((r273.2.length : Nat) : Int)).bind fun r290 => ((utf_Range r288.1).bind fun r292 => (bif ((!((((r286.2.Code == 0) && (r288.2.Code == 0)) && (r290.2.Code == 0)) && (r292.1.Code == 0))) || (decide ((r286.1).size + (r288.1).size ≤ 9223372036854775807))) then (bif ((!((((r286.2.Code == 0) && (r288.2.Code == 0)) && (r290.2.Code == 0)) && (r292.1.Code == 0))) || (decide (((r286.1 ++ r288.1)).size + (r290.1).size ≤ 9223372036854775807))) then (some (((r286.2.Code == 0) && ((r288.2.Code == 0) && ((r290.2.Code == 0) && ((r292.1.Code == 0) && ((decide (((r286.1 ++ r288.1) ++ r290.1) = text)) && (decide ((IntKind.i64.wrap (b - xa)) ≤ ((r292.2.length : Nat) : Int)))))))))) else none) else none))))))))))
noncomputable def taskmilllaw_own (l : (List Int)) : Option ((List Int)) := (bif (decide (l.length * 8 ≤ 140737488355328)) then (some (l)) else none)
end Go.Proofs.Ytbnhbaehapalnaa
