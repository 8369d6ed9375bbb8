/-
  Sx, part R: an operation looks at what it names, and at no more.
-/
import Derived.Test.YtnnpjaoddniifaaSxQ
set_option linter.unusedSimpArgs false
set_option linter.unusedVariables false
namespace Go.Sx
set_option linter.unusedVariables false
open Go.RowKit
variable {P : Program} {hp hp' : Hp} {nx : Nat}

theorem rowS_local {k : Nat} {f : TypeId → List SV → Res} {s : Prop} {e : Eff} (h : rowS (getH hp k) f = .ok s e) (hk : getH hp' k = getH hp k) : rowS (getH hp' k) f = .ok s e := by rw [hk]; exact h
theorem rowS_rds {c : Chunk} {f : TypeId → List SV → Res} {s : Prop} {e : Eff} {k : Nat} (h : rowS c f = .ok s e) (hf : ∀ t cs, f t cs = .ok s e → k ∈ e.rds) : k ∈ e.rds := by
  obtain ⟨t, cs, _, hh⟩ := rowS_ok h; exact hf t cs hh
theorem takeS_rds {t : TypeId} {cs : List SV} {off : Nat} {rds : List Nat} {s : Prop} {e : Eff} (h : takeS P t cs off rds nx = .ok s e) : e.rds = rds := by
  unfold takeS at h; split at h <;> cases h <;> rfl

theorem loadS_local {t : TypeId} {x : SV} {s : Prop} {e : Eff} (h : loadS P t x hp nx = .ok s e) (hr : ∀ k ∈ e.rds, getH hp' k = getH hp k) : loadS P t x hp' nx = .ok s e := by
  unfold loadS at h ⊢
  split at h
  · rename_i k off
    have : k ∈ e.rds := rowS_rds h fun t cs hh => by rw [takeS_rds hh]; simp
    exact rowS_local h (hr k this)
  · exact h
  · cases h
theorem storeS_local {t : TypeId} {x v : SV} {s : Prop} {e : Eff} (h : storeS P t x v hp nx = .ok s e) (hr : ∀ k ∈ e.rds, getH hp' k = getH hp k) : storeS P t x v hp' nx = .ok s e := by
  unfold storeS at h ⊢
  split at h
  · rename_i k off
    have : k ∈ e.rds := rowS_rds h fun t cs hh => by cases hh; simp
    exact rowS_local h (hr k this)
  · cases h
theorem liveS_local {k : Nat} {r : Res} {s : Prop} {e : Eff} (h : liveS (getH hp k) r = .ok s e) (hk : getH hp' k = getH hp k) : liveS (getH hp' k) r = .ok s e := by rw [hk]; exact h
theorem liveS_rds {c : Chunk} {r : Res} {s : Prop} {e : Eff} {k : Nat} (h : liveS c r = .ok s e) (hf : r = .ok s e → k ∈ e.rds) : k ∈ e.rds := hf (liveS_ok h).2

theorem fieldAddrS_local {t : TypeId} {x : SV} {f : Nat} {s : Prop} {e : Eff} (h : fieldAddrS' P t x f hp nx = .ok s e) (hr : ∀ k ∈ e.rds, getH hp' k = getH hp k) : fieldAddrS' P t x f hp' nx = .ok s e := by
  unfold fieldAddrS' at h ⊢
  split at h
  · rename_i o ft n hf
    split at h
    · rename_i k off
      have : k ∈ e.rds := liveS_rds h fun hh => by cases hh; simp
      exact liveS_local h (hr k this)
    · exact h
    · cases h
  · cases h
theorem indexAddrS_local {t : TypeId} {x i : SV} {s : Prop} {e : Eff} (h : indexAddrS P t x i hp nx = .ok s e) (hr : ∀ k ∈ e.rds, getH hp' k = getH hp k) : indexAddrS P t x i hp' nx = .ok s e := by
  unfold indexAddrS at h ⊢
  split at h
  · rename_i kd n
    split at h
    · split at h
      · rename_i k off len
        have : k ∈ e.rds := liveS_rds h fun hh => by cases hh; simp
        exact liveS_local h (hr k this)
      · exact h
      · cases h
    · split at h
      · split at h
        · rename_i k off
          have : k ∈ e.rds := liveS_rds h fun hh => by cases hh; simp
          exact liveS_local h (hr k this)
        · exact h
        · cases h
      · cases h
  · cases h
theorem mapC_local {k : Nat} {f : List (Value × SV) → Res} {s : Prop} {e : Eff} (h : mapC (getH hp k) f = .ok s e) (hk : getH hp' k = getH hp k) : mapC (getH hp' k) f = .ok s e := by rw [hk]; exact h
theorem mapC_rds {c : Chunk} {f : List (Value × SV) → Res} {s : Prop} {e : Eff} {k : Nat} (h : mapC c f = .ok s e) (hf : ∀ es, f es = .ok s e → k ∈ e.rds) : k ∈ e.rds := by
  obtain ⟨es, _, hh⟩ := mapC_ok h; exact hf es hh
theorem lookupS_local {t : TypeId} {x key : SV} {ok : Bool} {s : Prop} {e : Eff} (h : lookupS P t x key ok hp nx = .ok s e) (hr : ∀ k ∈ e.rds, getH hp' k = getH hp k) : lookupS P t x key ok hp' nx = .ok s e := by
  unfold lookupS at h ⊢
  split at h
  · rename_i k kv d e' hm
    split at h
    · have : k ∈ e.rds := mapC_rds h fun es hh => by cases hh; simp
      exact mapC_local h (hr k this)
    · cases h
  · cases h
theorem mapUpdS_local {t : TypeId} {x key v : SV} {s : Prop} {e : Eff} (h : mapUpdS P t x key v hp nx = .ok s e) (hr : ∀ k ∈ e.rds, getH hp' k = getH hp k) : mapUpdS P t x key v hp' nx = .ok s e := by
  unfold mapUpdS at h ⊢
  split at h
  · rename_i k kv d e' hm
    have : k ∈ e.rds := mapC_rds h fun es hh => by cases hh; simp
    exact mapC_local h (hr k this)
  · cases h
theorem sliceS_local {t : TypeId} {x : SV} {lo hi : Option SV} {s : Prop} {e : Eff} (h : sliceS P t x lo hi hp nx = .ok s e) (hr : ∀ k ∈ e.rds, getH hp' k = getH hp k) : sliceS P t x lo hi hp' nx = .ok s e := by
  unfold sliceS at h ⊢
  split at h
  · rename_i k off n
    split at h
    · have : k ∈ e.rds := rowS_rds h fun t cs hh => by cases hh; simp
      exact rowS_local h (hr k this)
    · cases h
  · exact h
  · exact h
  · exact h
  · cases h
theorem slice0S_local {t : TypeId} {x hi mx : SV} {s : Prop} {e : Eff} (h : slice0S P t x hi mx nx hp = .ok s e) (hr : ∀ k ∈ e.rds, getH hp' k = getH hp k) : slice0S P t x hi mx nx hp' = .ok s e := by
  unfold slice0S at h ⊢
  split at h
  · split at h
    · rename_i k _ _
      have : k ∈ e.rds := liveS_rds h fun hh => by cases hh; simp
      exact liveS_local h (hr k this)
    · exact h
    · exact h
    · cases h
  · cases h
theorem lenS_local {t : TypeId} {x : SV} {s : Prop} {e : Eff} (h : lenS P t x hp nx = .ok s e) (hr : ∀ k ∈ e.rds, getH hp' k = getH hp k) : lenS P t x hp' nx = .ok s e := by
  unfold lenS at h ⊢
  split at h
  · exact h
  · split at h
    · rename_i k off n
      split at h
      · have : k ∈ e.rds := rowS_rds h fun t cs hh => by cases hh; simp
        exact rowS_local h (hr k this)
      · cases h
    · exact h
    · exact h
    · exact h
    · rename_i k
      split at h
      · rename_i k1 e1 es hu hk
        cases h
        have := hr k (by simp)
        simp only [hu, this, hk]
      · cases h
    · cases h
theorem srcS_local {tx : TypeId} {z : Nat} {y : SV} {f : Nat → List SV → List Nat → Prop → Res} {s : Prop} {e : Eff} (h : srcS P tx z y hp f = .ok s e) (hf : ∀ m news rds s0, f m news rds s0 = .ok s e → ∀ k ∈ rds, k ∈ e.rds) (hr : ∀ k ∈ e.rds, getH hp' k = getH hp k) : srcS P tx z y hp' f = .ok s e := by
  unfold srcS at h ⊢
  split at h
  · rename_i k off m
    split at h
    · have : k ∈ e.rds := rowS_rds h fun t cs hh => hf _ _ _ _ hh k (by simp)
      exact rowS_local h (hr k this)
    · cases h
  · exact h
  · exact h
  · exact h
  · cases h
theorem srcS_congr {tx : TypeId} {z : Nat} {y : SV} {f f' : Nat → List SV → List Nat → Prop → Res} {s : Prop} {e : Eff} (h : srcS P tx z y hp f = .ok s e) (hf : ∀ m news rds s0, f m news rds s0 = .ok s e → f' m news rds s0 = .ok s e) : srcS P tx z y hp f' = .ok s e := by
  unfold srcS at h ⊢
  split at h
  · split at h
    · obtain ⟨t, cs, hk, hh⟩ := rowS_ok h
      rw [hk]; exact hf _ _ _ _ hh
    · cases h
  · split at h
    · exact hf _ _ _ _ h
    · cases h
  · split at h
    · exact hf _ _ _ _ h
    · cases h
  · split at h
    · exact hf _ _ _ _ h
    · cases h
  · cases h
theorem convS_local {t d : TypeId} {x : SV} {s : Prop} {e : Eff} (h : convS P t d x hp nx = .ok s e) (hr : ∀ k ∈ e.rds, getH hp' k = getH hp k) : convS P t d x hp' nx = .ok s e := by
  unfold convS at h ⊢
  split at h
  · exact h
  · exact h
  · unfold strS' at h ⊢
    split at h
    · split at h
      · refine srcS_local h (fun m news rds s0 hf => ?_) hr
        cases hb : news.all (isI .i32) <;> rw [hb] at hf <;> cases hf
        exact fun k hk => hk
      · refine srcS_local h (fun m news rds s0 hf => ?_) hr
        cases hb : news.all (isI .u8) <;> rw [hb] at hf <;> cases hf
        exact fun k hk => hk
      · cases h
    · cases h
theorem appendS_local {t tx : TypeId} {x y : SV} {s : Prop} {e : Eff} (h : appendS P t tx x y hp nx = .ok s e) (hr : ∀ k ∈ e.rds, getH hp' k = getH hp k) : appendS P t tx x y hp' nx = .ok s e := by
  unfold appendS at h ⊢
  split at h
  · rename_i e' z hz
    refine srcS_congr (srcS_local h (fun m news rds s0 hf k hk => ?_) hr) fun m news rds s0 hf => ?_
    · split at hf
      · obtain ⟨_, _, _, hh⟩ := rowS_ok hf; cases hh; exact List.mem_cons_of_mem _ hk
      · cases hf; exact hk
      · cases hf
    · split at hf
      · rename_i k off n
        have : k ∈ e.rds := rowS_rds hf fun t cs hh => by cases hh; simp
        exact rowS_local hf (hr k this)
      · exact hf
      · cases hf
  · cases h
theorem binOpS_local {op : BinOp} {t : TypeId} {x y : SV} {s : Prop} {e : Eff} (h : binOpS P op t x y hp nx = .ok s e) (hr : ∀ k ∈ e.rds, getH hp' k = getH hp k) : binOpS P op t x y hp' nx = .ok s e := by
  unfold binOpS at h ⊢
  split at h
  case h_5 k off =>
    have : k ∈ e.rds := liveS_rds h fun hh => by
      unfold nilEqS at hh
      split at hh
      · cases ho : isEq op with
        | false => rw [ho] at hh; cases hh
        | true => rw [ho] at hh; cases hh; simp
      · cases hh
    exact liveS_local h (hr k this)
  all_goals first | exact h | cases h

/-- The slots that an operation names. -/
def namesOf (o : Op) : List Tmp := o.operands.toList.filterMap fun | .tmp t => some t | _ => none

theorem evS_local {g : Bool} {fr fr' : Fr} {o : Operand} (h : ∀ t, o = .tmp t → getF fr' t = getF fr t) : evS g fr' o = evS g fr o := by
  cases o with
  | tmp t => simp [evS, h t rfl]
  | _ => rfl
theorem mem_names {o : Op} {x : Operand} (hx : x ∈ o.operands.toList) {t : Nat} (ht : x = .tmp t) : t ∈ namesOf o := by
  subst ht; exact List.mem_filterMap.2 ⟨_, hx, rfl⟩

set_option maxHeartbeats 1000000 in
theorem opS_local {g : Bool} {fr fr' : Fr} {ty : TypeId} {o : Op} {s : Prop} {e : Eff} (h : opS P g fr hp nx ty o = .ok s e) (hf : ∀ t ∈ namesOf o, getF fr' t = getF fr t) (hr : ∀ k ∈ e.rds, getH hp' k = getH hp k) :
    opS P g fr' hp' nx ty o = .ok s e := by
  have raw : ∀ (x : Operand), x ∈ o.operands.toList → rawS fr' x = rawS fr x := fun x hx => by
    cases x with
    | tmp t => exact hf t (mem_names hx rfl)
    | _ => rfl
  have ev : ∀ (g : Bool) (x : Operand), x ∈ o.operands.toList → evS g fr' x = evS g fr x := fun g x hx => evS_local fun t ht => hf t (mem_names hx ht)
  cases o <;> simp only [opS, Op.operands] at h ev raw ⊢
  case move x => rw [ev g x (by simp)]; exact h
  case assign x => rw [ev g x (by simp)]; exact h
  case pick c x y => rw [ev g c (by simp), raw x (by simp), raw y (by simp)]; exact h
  case alloc t => exact h
  case box t x => rw [ev g x (by simp)]; exact h
  case build t ps =>
    rw [show (ps.toList.map fun p => (p.1, evS g fr' p.2)) = ps.toList.map fun p => (p.1, evS g fr p.2) from List.map_congr_left fun p hp => by rw [ev g p.2 (by simpa using ⟨p.1, by simpa using hp⟩)]]
    exact h
  case buildSlice t n ps =>
    rw [show (ps.toList.map fun p => (p.1, evS g fr' p.2)) = ps.toList.map fun p => (p.1, evS g fr p.2) from List.map_congr_left fun p hp => by rw [ev g p.2 (by simpa using ⟨p.1, by simpa using hp⟩)]]
    exact h
  case insert t m k x => rw [ev g m (by simp), ev g k (by simp), ev g x (by simp)]; exact mapUpdS_local h hr
  case load t x => rw [ev g x (by simp)]; exact loadS_local h hr
  case store t x y => rw [ev g x (by simp), ev g y (by simp)]; exact storeS_local h hr
  case nilCheck x =>
    rw [ev g x (by simp)]
    split at h
    · rename_i k off hx
      have : k ∈ e.rds := liveS_rds h fun hh => by cases hh; simp
      exact liveS_local h (hr k this)
    · exact h
    · exact h
    · cases h
  case binOp op t x y yt => rw [ev g x (by simp), ev g y (by simp)]; exact binOpS_local h hr
  case unOp op t x => rw [ev g x (by simp)]; exact h
  case convert a b x => rw [ev g x (by simp)]; exact convS_local h hr
  case makeFunc fn first caps =>
    split at h
    · rw [show caps.toList.map (evS g fr') = caps.toList.map (evS g fr) from List.map_congr_left fun p hp => ev g p (by simp; exact .inr (by simpa using hp))]
      exact h
    · cases h
  case makeMap t r => cases r <;> first | exact h | cases h
  case makeSlice t l c => rw [ev g l (by simp), ev g c (by simp)]; exact h
  case slice t x lo hi mx =>
    split at h
    · rw [ev g x (by simp)]
      rw [show lo.map (evS g fr') = lo.map (evS g fr) from by cases lo <;> simp; exact ev g _ (by simp)]
      rw [show hi.map (evS g fr') = hi.map (evS g fr) from by cases hi <;> simp; exact ev g _ (by simp)]
      exact sliceS_local h hr
    · split at h
      · rw [ev g x (by simp), ev g _ (by simp), ev g _ (by simp)]
        exact slice0S_local h hr
      · cases h
  case fieldAddr t x f => rw [ev g x (by simp)]; exact fieldAddrS_local h hr
  case field t x f => rw [ev g x (by simp)]; exact h
  case indexAddr t x i => rw [ev g x (by simp), ev g i (by simp)]; exact indexAddrS_local h hr
  case index t x i => rw [ev g x (by simp), ev g i (by simp)]; exact h
  case lookup t x i ok => rw [ev g x (by simp), ev g i (by simp)]; exact lookupS_local h hr
  case mapUpdate t m k x => rw [ev g m (by simp), ev g k (by simp), ev g x (by simp)]; exact mapUpdS_local h hr
  case extract x i => rw [ev g x (by simp)]; exact h
  case range t x => rw [ev g x (by simp)]; exact h
  case next x str =>
    rw [ev g x (by simp)]
    unfold nextS at h ⊢
    cases str with
    | false => cases h
    | true =>
      simp only [cond_true] at h ⊢
      split at h
      · rename_i k hx
        obtain ⟨s, pos, hk, hf⟩ := itC_ok h
        have hm : k ∈ e.rds := by cases hb : decide (pos < s.size) <;> rw [hb] at hf <;> cases hf <;> simp
        simp only [hr k hm, hk, itC]; exact hf
      · cases h
  case call c =>
    obtain ⟨callee, args, argTypes⟩ := c
    split at h
    · rename_i b hcb
      simp only at hcb; subst hcb
      simp only [Call.operands] at ev
      have ev' : ∀ x ∈ args.toList, evS g fr' x = evS g fr x := fun x hx => ev g x (by simp; simpa using hx)
      split at h
      · rename_i x t hargs htys
        simp only at hargs htys
        rw [ev' x (by rw [hargs]; simp)]
        exact lenS_local h hr
      · rename_i x y t tx hargs htys
        simp only at hargs htys
        rw [ev' x (by rw [hargs]; simp), ev' y (by rw [hargs]; simp)]
        split at h
        · rename_i e' z hst
          cases hz : zokT P e' with
          | false => rw [hz] at h; cases h
          | true =>
            rw [hz] at h
            simp only [hst, hz, cond_true] at h ⊢
            exact appendS_local h hr
        · cases h
      · rw [show args.toList.map (evS g fr') = args.toList.map (evS g fr) from List.map_congr_left ev']; exact h
      · rw [show args.toList.map (evS g fr') = args.toList.map (evS g fr) from List.map_congr_left ev']; exact h
      · cases h
    · cases h
  all_goals cases h

/-- What it writes was there, or bears the name nx. -/
def KeysOk (hp : Hp) (nx : Nat) (e : Eff) : Prop := nx ≤ e.nx ∧ ∀ p ∈ e.upd, (p.1 = nx ∧ e.nx = nx + 1) ∨ (p.1 ∈ e.rds ∧ (getH hp p.1).live = true)
theorem keys_none {e : Eff} (h : e.upd = [] ∧ e.nx = nx) : KeysOk hp nx e := ⟨by rw [h.2]; exact Nat.le_refl _, fun p hp => by rw [h.1] at hp; cases hp⟩
theorem pureR_keys {x : SV} {s : Prop} {e : Eff} (h : pureR x nx = .ok s e) : e.upd = [] ∧ e.nx = nx := by cases h; exact ⟨rfl, rfl⟩
theorem takeS_keys {t : TypeId} {cs : List SV} {off : Nat} {rds : List Nat} {s : Prop} {e : Eff} (h : takeS P t cs off rds nx = .ok s e) : e.upd = [] ∧ e.nx = nx := by
  unfold takeS at h; split at h <;> cases h <;> exact ⟨rfl, rfl⟩
theorem loadS_keys {t : TypeId} {x : SV} {s : Prop} {e : Eff} (h : loadS P t x hp nx = .ok s e) : e.upd = [] ∧ e.nx = nx := by
  unfold loadS at h
  split at h
  · obtain ⟨_, _, _, hh⟩ := rowS_ok h; exact takeS_keys hh
  · exact takeS_keys h
  · cases h
theorem intS_keys {op : BinOp} {k : IntKind} {a b : Int} {s : Prop} {e : Eff} (h : intS op k a b nx = .ok s e) : e.upd = [] ∧ e.nx = nx := by cases op <;> simp only [intS, pureR] at h <;> cases h <;> exact ⟨rfl, rfl⟩
theorem strS_keys {op : BinOp} {a b : ByteArray} {s : Prop} {e : Eff} (h : strS op a b nx = .ok s e) : e.upd = [] ∧ e.nx = nx := by cases op <;> simp only [strS, pureR] at h <;> cases h <;> exact ⟨rfl, rfl⟩
theorem nilEqS_keys {op : BinOp} {t : TypeId} {r : Bool} {rds : List Nat} {s : Prop} {e : Eff} (h : nilEqS P op t r rds nx = .ok s e) : e.upd = [] ∧ e.nx = nx := by
  unfold nilEqS at h
  split at h
  · cases ho : isEq op with
    | false => rw [ho] at h; cases h
    | true => rw [ho] at h; cases h; exact ⟨rfl, rfl⟩
  · cases h
theorem binOpS_keys {op : BinOp} {t : TypeId} {x y : SV} {s : Prop} {e : Eff} (h : binOpS P op t x y hp nx = .ok s e) : e.upd = [] ∧ e.nx = nx := by
  unfold binOpS at h
  split at h
  · rename_i k a k' b
    cases h1 : isShift op with
    | true => rw [h1] at h; cases op <;> simp only [shiftS] at h <;> cases h <;> exact ⟨rfl, rfl⟩
    | false =>
      rw [h1] at h
      cases h2 : (k == k') with
      | true => simp only [h2, cond_true, cond_false] at h; exact intS_keys h
      | false => simp only [h2, cond_false] at h; cases h
  · exact strS_keys h
  · split at h
    · cases ho : isEq op with
      | false => rw [ho] at h; cases h
      | true => rw [ho] at h; exact pureR_keys h
    · cases h
  · split at h
    · cases ho : (isEq op && !P.eqGuardType P.depth t) with
      | false => rw [ho] at h; cases h
      | true =>
        rw [ho] at h
        unfold aggEqS at h
        split at h
        · rename_i l n r _ _ _
          rename_i xs ys _ _ _ _ _ _
          generalize hb : ((n == l.length && (_ == n && _ == n)) && (leafS l _ && leafS l _)) = bb at h
          cases bb with
          | false => cases h
          | true => exact pureR_keys h
        · cases h
    · cases h
  · exact nilEqS_keys (liveS_ok h).2
  · exact nilEqS_keys h
  · exact nilEqS_keys h
  · cases h


theorem indexS_keys {t : TypeId} {x i : SV} {s : Prop} {e : Eff} (h : indexS P t x i nx = .ok s e) : e.upd = [] ∧ e.nx = nx := by
  unfold indexS at h
  split at h
  · split at h
    · split at h
      · rename_i s' r hp; cases h; exact takeS_keys hp
      · cases h
    · cases h
  · split at h
    · cases h; exact ⟨rfl, rfl⟩
    · cases h
  · cases h
theorem lenS_keys {t : TypeId} {x : SV} {s : Prop} {e : Eff} (h : lenS P t x hp nx = .ok s e) : e.upd = [] ∧ e.nx = nx := by
  unfold lenS at h
  split at h
  · exact pureR_keys h
  · split at h
    · split at h
      · obtain ⟨_, _, _, hh⟩ := rowS_ok h; cases hh; exact ⟨rfl, rfl⟩
      · cases h
    · split at h
      · exact pureR_keys h
      · cases h
    · split at h
      · exact pureR_keys h
      · cases h
    · split at h
      · exact pureR_keys h
      · cases h
    · split at h
      · cases h; exact ⟨rfl, rfl⟩
      · cases h
    · cases h
theorem sliceS_keys {t : TypeId} {x : SV} {lo hi : Option SV} {s : Prop} {e : Eff} (h : sliceS P t x lo hi hp nx = .ok s e) : e.upd = [] ∧ e.nx = nx := by
  unfold sliceS at h
  split at h
  · split at h
    · obtain ⟨_, _, _, hh⟩ := rowS_ok h; cases hh; exact ⟨rfl, rfl⟩
    · cases h
  · split at h
    · cases h; exact ⟨rfl, rfl⟩
    · cases h
  · split at h
    · cases h; exact ⟨rfl, rfl⟩
    · cases h
  · split at h
    · cases h; exact ⟨rfl, rfl⟩
    · cases h
  · cases h
theorem fieldAddrS_keys {t : TypeId} {x : SV} {f : Nat} {s : Prop} {e : Eff} (h : fieldAddrS' P t x f hp nx = .ok s e) : e.upd = [] ∧ e.nx = nx := by
  unfold fieldAddrS' at h
  split at h
  · split at h
    · have := (liveS_ok h).2; cases this; exact ⟨rfl, rfl⟩
    · cases h; exact ⟨rfl, rfl⟩
    · cases h
  · cases h
theorem indexAddrS_keys {t : TypeId} {x i : SV} {s : Prop} {e : Eff} (h : indexAddrS P t x i hp nx = .ok s e) : e.upd = [] ∧ e.nx = nx := by
  unfold indexAddrS at h
  split at h
  · split at h
    · split at h
      · have := (liveS_ok h).2; cases this; exact ⟨rfl, rfl⟩
      · cases h; exact ⟨rfl, rfl⟩
      · cases h
    · split at h
      · split at h
        · have := (liveS_ok h).2; cases this; exact ⟨rfl, rfl⟩
        · cases h; exact ⟨rfl, rfl⟩
        · cases h
      · cases h
  · cases h
theorem lookupS_keys {t : TypeId} {x key : SV} {ok : Bool} {s : Prop} {e : Eff} (h : lookupS P t x key ok hp nx = .ok s e) : e.upd = [] ∧ e.nx = nx := by
  unfold lookupS at h
  split at h
  · split at h
    · obtain ⟨_, _, hh⟩ := mapC_ok h; cases hh; exact ⟨rfl, rfl⟩
    · cases h
  · cases h
theorem minmaxR_keys {mx : Bool} {l : List SV} {s : Prop} {e : Eff} (h : minmaxR mx l nx = .ok s e) : e.upd = [] ∧ e.nx = nx := by
  unfold minmaxR at h
  split at h
  · split at h
    · exact pureR_keys h
    · cases h
  · cases h
theorem keys_new {e : Eff} {c : Chunk} (h : e.upd = [(nx, c)] ∧ e.nx = nx + 1) : KeysOk hp nx e := ⟨by rw [h.2]; exact Nat.le_succ _, fun p hp => by rw [h.1] at hp; simp at hp; subst hp; exact .inl ⟨rfl, h.2⟩⟩
theorem srcS_inv {tx : TypeId} {z : Nat} {y : SV} {f : Nat → List SV → List Nat → Prop → Res} {s : Prop} {e : Eff} (h : srcS P tx z y hp f = .ok s e) : ∃ m news rds s0, f m news rds s0 = .ok s e := by
  unfold srcS at h
  split at h
  · split at h
    · obtain ⟨_, _, _, hh⟩ := rowS_ok h; exact ⟨_, _, _, _, hh⟩
    · cases h
  · split at h
    · exact ⟨_, _, _, _, h⟩
    · cases h
  · split at h
    · exact ⟨_, _, _, _, h⟩
    · cases h
  · split at h
    · exact ⟨_, _, _, _, h⟩
    · cases h
  · cases h
theorem appendS_keys {t tx : TypeId} {x y : SV} {s : Prop} {e : Eff} (h : appendS P t tx x y hp nx = .ok s e) : KeysOk hp nx e := by
  unfold appendS at h
  split at h
  · obtain ⟨m, news, rds, s0, hf⟩ := srcS_inv h
    split at hf
    · rename_i k off n
      obtain ⟨t', cs, hk, hh⟩ := rowS_ok hf
      cases hh
      refine ⟨Nat.le_succ _, fun p hp => ?_⟩
      simp at hp
      rcases hp with rfl | rfl
      · exact .inl ⟨rfl, rfl⟩
      · exact .inr ⟨by simp, by rw [hk]; rfl⟩
    · cases hf; exact keys_new ⟨rfl, rfl⟩
    · cases hf
  · cases h
theorem storeS_keys {t : TypeId} {x v : SV} {s : Prop} {e : Eff} (h : storeS P t x v hp nx = .ok s e) : KeysOk hp nx e := by
  unfold storeS at h
  split at h
  · rename_i k off
    obtain ⟨t', cs, hk, hh⟩ := rowS_ok h
    cases hh
    exact ⟨Nat.le_refl _, fun p hp => by simp at hp; subst hp; exact .inr ⟨by simp, by rw [hk]; rfl⟩⟩
  · cases h
theorem mapUpdS_keys {t : TypeId} {x q v : SV} {s : Prop} {e : Eff} (h : mapUpdS P t x q v hp nx = .ok s e) : KeysOk hp nx e := by
  unfold mapUpdS at h
  split at h
  · rename_i k kv d e' hm
    obtain ⟨es, hk, hh⟩ := mapC_ok h
    cases hh
    exact ⟨Nat.le_refl _, fun p hp => by simp at hp; subst hp; exact .inr ⟨by simp, by rw [hk]; rfl⟩⟩
  · cases h

set_option maxHeartbeats 1000000 in
theorem opS_keys {g : Bool} {fr : Fr} {ty : TypeId} {o : Op} {s : Prop} {e : Eff} (h : opS P g fr hp nx ty o = .ok s e) : KeysOk hp nx e := by
  cases o <;> simp only [opS] at h
  case move x => exact keys_none (pureR_keys h)
  case assign x => exact keys_none (pureR_keys h)
  case pick c x y =>
    split at h
    · unfold pickS at h
      split at h
      · exact keys_none (pureR_keys h)
      · rename_i k p k' q _ _
        cases hk : (k == k') with
        | false => rw [hk] at h; exact keys_none (pureR_keys h)
        | true => rw [hk] at h; exact keys_none (pureR_keys h)
      · exact keys_none (pureR_keys h)
    · cases h
  case alloc t =>
    unfold allocS at h
    split at h
    · cases h; exact keys_new ⟨rfl, rfl⟩
    · cases h
  case box t x => cases h; exact keys_new ⟨rfl, rfl⟩
  case build t ps =>
    unfold buildS at h
    split at h
    · split at h
      · split at h
        · cases h; exact keys_none ⟨rfl, rfl⟩
        · cases h
      · split at h
        · split at h
          · cases h; exact keys_none ⟨rfl, rfl⟩
          · cases h
        · cases h
    · cases h
  case buildSlice t n ps =>
    unfold buildSliceS at h
    split at h
    · split at h
      · rename_i _ e1 q hq _ z hz
        generalize hb : ((Nat.ble (n * q) 16777216 && !(n * q == 0)) && z.length == q) = bb at h
        cases bb with
        | false => cases h
        | true =>
          simp only [cond_true] at h
          split at h
          · cases h; exact keys_new ⟨rfl, rfl⟩
          · cases h
      · cases h
    · cases h
  case insert t m k x => exact mapUpdS_keys h
  case load t x => exact keys_none (loadS_keys h)
  case store t x y => exact storeS_keys h
  case nilCheck x =>
    split at h
    · have := (liveS_ok h).2; cases this; exact keys_none ⟨rfl, rfl⟩
    · exact keys_none (pureR_keys h)
    · exact keys_none (pureR_keys h)
    · cases h
  case binOp op t x y yt => exact keys_none (binOpS_keys h)
  case unOp op t x =>
    unfold unS at h
    split at h
    · exact keys_none (pureR_keys h)
    · exact keys_none (pureR_keys h)
    · cases h
  case convert a b x =>
    unfold convS at h
    split at h
    · split at h
      · exact keys_none (pureR_keys h)
      · cases h
    · split at h
      · exact keys_none (pureR_keys h)
      · split at h
        · cases h; exact keys_new ⟨rfl, rfl⟩
        · cases h
      · cases h
    · unfold strS' at h
      split at h
      · split at h
        · obtain ⟨m, news, rds, s0, hf⟩ := srcS_inv h
          cases hb : news.all (isI .i32) <;> rw [hb] at hf <;> cases hf
          exact keys_none ⟨rfl, rfl⟩
        · obtain ⟨m, news, rds, s0, hf⟩ := srcS_inv h
          cases hb : news.all (isI .u8) <;> rw [hb] at hf <;> cases hf
          exact keys_none ⟨rfl, rfl⟩
        · cases h
      · cases h
  case makeFunc fn first caps =>
    split at h
    · cases hz : (first.size == 0) with
      | false => rw [hz] at h; cases h
      | true => rw [hz] at h; exact keys_none (pureR_keys h)
    · cases h
  case makeMap t r =>
    split at h
    · cases h; exact keys_new ⟨rfl, rfl⟩
    · cases h
  case makeSlice t l c =>
    unfold makeSliceS at h
    split at h
    · split at h
      · cases h; exact keys_new ⟨rfl, rfl⟩
      · cases h
    · cases h
  case slice t x lo hi mx =>
    split at h
    · exact keys_none (sliceS_keys h)
    · split at h
      · unfold slice0S at h
        split at h
        · split at h
          · have := (liveS_ok h).2; cases this; exact keys_new ⟨rfl, rfl⟩
          · cases h; exact keys_new ⟨rfl, rfl⟩
          · cases h; exact keys_new ⟨rfl, rfl⟩
          · cases h
        · cases h
      · cases h
  case fieldAddr t x f => exact keys_none (fieldAddrS_keys h)
  case field t x f =>
    unfold fieldS at h
    split at h
    · exact keys_none (takeS_keys h)
    · cases h
  case indexAddr t x i => exact keys_none (indexAddrS_keys h)
  case index t x i => exact keys_none (indexS_keys h)
  case lookup t x i ok => exact keys_none (lookupS_keys h)
  case mapUpdate t m k x => exact mapUpdS_keys h
  case range t x =>
    unfold rangeS at h
    split at h
    · split at h
      · cases h; exact keys_new ⟨rfl, rfl⟩
      · cases h
    · cases h
  case next x str =>
    unfold nextS at h
    cases str with
    | false => cases h
    | true =>
      simp only [cond_true] at h
      split at h
      · rename_i k hx
        obtain ⟨s, pos, hk, hf⟩ := itC_ok h
        cases hb : decide (pos < s.size) with
        | true =>
          rw [hb] at hf; cases hf
          exact ⟨Nat.le_refl _, fun p hp => by simp at hp; subst hp; exact .inr ⟨by simp, by rw [hk]; rfl⟩⟩
        | false => rw [hb] at hf; cases hf; exact keys_none ⟨rfl, rfl⟩
      · cases h
  case extract x i =>
    unfold extractS at h
    split at h
    · split at h
      · exact keys_none (pureR_keys h)
      · cases h
    · cases h
  case call c =>
    split at h
    · split at h
      · exact keys_none (lenS_keys h)
      · split at h
        · rename_i e' z hst
          cases hz : zokT P e' with
          | false => rw [hz] at h; cases h
          | true => rw [hz] at h; exact appendS_keys h
        · cases h
      · exact keys_none (minmaxR_keys h)
      · exact keys_none (minmaxR_keys h)
      · cases h
    · cases h
  all_goals cases h

end Go.Sx
