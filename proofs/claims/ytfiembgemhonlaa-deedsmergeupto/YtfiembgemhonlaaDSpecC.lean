/- DeedsMerge: deeds of two lists. Own work. -/
import Derived.Test.YtfiembgemhonlaaDSpecB
set_option linter.unusedVariables false
set_option linter.unusedSimpArgs false
namespace Go.Vm
open Go.RowKit Go.Vm.Gain
/-! ### slices.Concat -/
def s158 (ls : List (List Dd)) : Option (List Dd) := if ls.flatten.length ≤ 4294967296 then some ls.flatten else none
theorem take_flat {α : Type} (ls : List (List α)) (j : Nat) {x : List α} (hx : ls[j]? = some x) : (ls.take (j + 1)).flatten = (ls.take j).flatten ++ x := by
  rw [List.take_add_one, hx]
  simp
theorem flat_le {α : Type} (ls : List (List α)) (j : Nat) : (ls.take j).flatten.length ≤ ls.flatten.length := by
  have h := congrArg List.length (congrArg List.flatten (List.take_append_drop j ls))
  rw [List.flatten_append, List.length_append] at h
  omega
theorem h158 (ls : List (List Dd)) (ys : List Dd) (hw : WFs A158 (ls, ())) (hy : s158 ls = some ys) : ∃ k, f158 k ls = some ys := by
  unfold s158 at hy
  split at hy
  rotate_left
  · cases hy
  rename_i hn
  cases hy
  simp only [WFs, WF] at hw
  have hl : ls.length ≤ 9223372036854775807 := hw.1.1
  clear hw
  refine ⟨ls.length + 1, ?_⟩
  unfold f158
  rw [iter_scan0 (s0 := (((0 : Int), (0 : Int), ()), ())) (β := Unit) ls (fun j _ => (((((ls.take j).flatten.length : Nat) : Int), (j : Int), ()), ())) (fun _ _ _ => .inl ()) (fun _ => .inr ((((ls.flatten.length : Nat) : Int), ()), ())) () rfl (Nat.lt_succ_self _) ?a1 ?a2]
  case a2 => intro b; simp
  case a1 =>
    intro j x b hx
    have h1 := flat_le ls (j + 1)
    rw [take_flat ls j hx, List.length_append] at h1
    have e : IntKind.i64.wrap ((((ls.take j).flatten.length : Nat) : Int) + (x.length : Int)) = (((ls.take (j + 1)).flatten.length : Nat) : Int) := by
      rw [take_flat ls j hx, List.length_append, wrap_ok (by omega) (by omega)]; omega
    simp only [lt_at hx, inR_at hx, rd_at hx, wrap_succ hx hl, cond_true, e]
    rw [show decide ((((ls.take (j + 1)).flatten.length : Nat) : Int) < 0) = false from by simp]
    rfl
  rw [scan_fold0 (fun (_ : List Dd) (_ : Unit) => ())]
  have eN : IntKind.i64.wrap (((ls.flatten.length : Nat) : Int) - 0) = ((ls.flatten.length : Nat) : Int) := by rw [wrap_ok (by omega) (by omega)]; omega
  have e0 : decide (((ls.flatten.length : Nat) : Int) < 0) = false := by simp
  have hloop : ∀ g : List Dd, g = [] → iter (ls.length + 1) (fun y4 : (List Dd × Int × Unit) × Unit =>
      bif decide (y4.1.2.1 < (ls.length : Int)) then
        bif inR y4.1.2.1 (ls.length : Int) then
          bif decide (y4.1.1.length + (rd (α := List Dd) [] ls y4.1.2.1).length ≤ 4294967296) then
            some (.inl ((y4.1.1 ++ rd (α := List Dd) [] ls y4.1.2.1, IntKind.i64.wrap (y4.1.2.1 + 1), ()), ()))
          else none
        else none
      else some (.inr ((.inr ((y4.1.1, ()), ())) : (List Dd) ⊕ ((List Dd × Unit) × Unit)))) ((g, (0 : Int), ()), ()) = some (.inr ((ls.flatten, ()), ())) := by
    intro g hg
    subst hg
    rw [iter_scan0 (s0 := (([], (0 : Int), ()), ())) (β := Unit) ls (fun j _ => (((ls.take j).flatten, (j : Int), ()), ())) (fun _ _ _ => .inl ()) (fun _ => .inr ((ls.flatten, ()), ())) () rfl (Nat.lt_succ_self _) ?a1 ?a2]
    case a2 => intro b; simp
    case a1 =>
      intro j x b hx
      have h1 := flat_le ls (j + 1)
      have h2 := take_flat ls j hx
      have h3 := congrArg List.length h2
      rw [List.length_append] at h3
      simp only [lt_at hx, inR_at hx, rd_at hx, wrap_succ hx hl, cond_true]
      rw [show decide ((ls.take j).flatten.length + x.length ≤ 4294967296) = true from decide_eq_true (by omega), h2]
      rfl
    rw [scan_fold0 (fun (_ : List Dd) (_ : Unit) => ())]
  simp only [Option.bind_some, eN, e0, cond_false]
  cases hp : decide (((ls.flatten.length : Nat) : Int) > 0)
  · simp only [cond_false, Option.bind_some]
    refine (congrArg (fun q => Option.bind q (fun r : (List Dd) ⊕ ((List Dd × Unit) × Unit) => match r with | .inl z => some z | .inr z5 => some z5.1.1)) (hloop [] rfl)).trans rfl
  · have e1 : (decide (0 ≤ ((ls.flatten.length : Nat) : Int)) && decide (((ls.flatten.length : Nat) : Int) ≤ 4294967296)) = true := by rw [Bool.and_eq_true, decide_eq_true_iff, decide_eq_true_iff]; omega
    have e2 : ∀ n : Nat, (decide ((0 : Int) ≤ 0) && (decide ((0 : Int) ≤ 0) && decide ((0 : Int) ≤ (n : Int)))) = true := fun n => by simp
    simp only [cond_true, e1, e2, Option.bind_some]
    refine (congrArg (fun q => Option.bind q (fun r : (List Dd) ⊕ ((List Dd × Unit) × Unit) => match r with | .inl z => some z | .inr z5 => some z5.1.1)) (hloop _ (by simp))).trans rfl
/-! ### equal deeds -/
def ddEq (a b : Dd) : Bool := keq TD0 a b
theorem ddEq_iff (a b : Dd) : ddEq a b = true ↔ a = b := keq_iff (K := TD0) rfl a b
theorem dd_chain (a b : Dd) : ((sEq a.1 b.1) && ((a.2.1 == b.2.1) && ((a.2.2.1 == b.2.2.1) && ((a.2.2.2.1 == b.2.2.2.1) && ((sEq a.2.2.2.2.1 b.2.2.2.2.1) && ((sEq a.2.2.2.2.2.1 b.2.2.2.2.2.1) && (((sEq a.2.2.2.2.2.2.1.1 b.2.2.2.2.2.2.1.1) && ((a.2.2.2.2.2.2.1.2.1 == b.2.2.2.2.2.2.1.2.1) && ((a.2.2.2.2.2.2.1.2.2.1 == b.2.2.2.2.2.2.1.2.2.1) && true))) && (((sEq a.2.2.2.2.2.2.2.1.1 b.2.2.2.2.2.2.2.1.1) && ((sEq a.2.2.2.2.2.2.2.1.2.1 b.2.2.2.2.2.2.2.1.2.1) && ((sEq a.2.2.2.2.2.2.2.1.2.2.1 b.2.2.2.2.2.2.2.1.2.2.1) && ((sEq a.2.2.2.2.2.2.2.1.2.2.2.1 b.2.2.2.2.2.2.2.1.2.2.2.1) && ((a.2.2.2.2.2.2.2.1.2.2.2.2.1 == b.2.2.2.2.2.2.2.1.2.2.2.2.1) && ((a.2.2.2.2.2.2.2.1.2.2.2.2.2.1 == b.2.2.2.2.2.2.2.1.2.2.2.2.2.1) && ((a.2.2.2.2.2.2.2.1.2.2.2.2.2.2.1 == b.2.2.2.2.2.2.2.1.2.2.2.2.2.2.1) && ((a.2.2.2.2.2.2.2.1.2.2.2.2.2.2.2.1 == b.2.2.2.2.2.2.2.1.2.2.2.2.2.2.2.1) && true)))))))) && true)))))))) = ddEq a b := rfl
/-! ### a deed more -/
def addD (out : List Dd) (d : Dd) : Option (List Dd) :=
  match out.find? (fun o => s157 o d) with
  | none => some (out ++ [d])
  | some o => bif ddEq o d then some out else none
def addAll : List Dd → List Dd → Option (List Dd)
  | out, [] => some out
  | out, d :: l => (addD out d).bind fun o => addAll o l
/-- what is done with deeds that come -/
abbrev Mp : Type := List (Nm × Dd × Nat) × Nat
def addB (d : Dd) (s : List Dd × Mp) : (List Dd × Mp) ⊕ ((List Dd × Int × Unit) ⊕ ((List Dd × Unit) × (Mp × Unit))) :=
  bif !mhas nmEq (nm d) s.2.1 then .inl (s.1 ++ [d], mput nmEq (nm d) d s.2)
  else bif !ddEq (mget nmEq (ByteArray.empty, 0, 0, 0, ByteArray.empty, ByteArray.empty, (ByteArray.empty, 0, 0, ()), (ByteArray.empty, ByteArray.empty, ByteArray.empty, ByteArray.empty, 0, 0, 0, 0, ()), ()) (nm d) s.2.1) d then .inr (.inl ([], 13, ())) else .inl s
def Knows (s : List Dd × Mp) : Prop := ∀ n, mfind nmEq n s.2.1 = s.1.find? (fun o => nmEq (nm o) n)
theorem s157_nm (o d : Dd) : s157 o d = nmEq (nm o) (nm d) := by
  have h1 := s157_iff o d
  have h2 := nm_iff (nm o) (nm d)
  cases h3 : s157 o d <;> cases h4 : nmEq (nm o) (nm d) <;> simp_all
theorem nmEq_comm (a b : Nm) : nmEq a b = nmEq b a := by
  have h1 := nm_iff a b
  have h2 := nm_iff b a
  cases h3 : nmEq a b <;> cases h4 : nmEq b a <;> simp_all
theorem addB_next {d : Dd} {s s' : List Dd × Mp} (h : addB d s = .inl s') (hk : Knows s) : Knows s' := by
  unfold addB at h
  cases h1 : mhas nmEq (nm d) s.2.1 <;> rw [h1] at h
  · cases h
    intro n
    rw [mfind_mput nm_iff, List.find?_append, hk n]
    rw [mhas_find, hk] at h1
    cases h2 : nmEq n (nm d)
    · simp [nmEq_comm (nm d) n, h2]
    · have := (nm_iff _ _).1 h2
      subst this
      simp only [cond_true]
      cases h3 : s.1.find? (fun o => nmEq (nm o) (nm d)) with
      | none => simp [(nm_iff _ _).2 rfl]
      | some o => rw [h3] at h1; cases h1
  · simp only [Bool.not_true, cond_false] at h
    cases h2 : ddEq (mget nmEq (ByteArray.empty, 0, 0, 0, ByteArray.empty, ByteArray.empty, (ByteArray.empty, 0, 0, ()), (ByteArray.empty, ByteArray.empty, ByteArray.empty, ByteArray.empty, 0, 0, 0, 0, ()), ()) (nm d) s.2.1) d <;> rw [h2] at h
    · cases h
    · cases h; exact hk
theorem addB_add {d : Dd} {s : List Dd × Mp} (hk : Knows s) : (match addB d s with | .inl s' => some s'.1 | .inr _ => none) = addD s.1 d ∧ ∀ z, addB d s = .inr z → z = .inl ([], 13, ()) := by
  have e : s.1.find? (fun o => s157 o d) = mfind nmEq (nm d) s.2.1 := by
    rw [hk]
    congr 1
    funext o
    exact s157_nm o d
  unfold addB addD
  rw [e, mhas_find]
  unfold mget
  cases h : mfind nmEq (nm d) s.2.1 with
  | none => exact ⟨rfl, fun z hz => by cases hz⟩
  | some o =>
    simp only [Option.isSome_some, Bool.not_true, cond_false, Option.getD_some]
    cases ddEq o d
    · exact ⟨rfl, fun z hz => by cases hz; rfl⟩
    · exact ⟨rfl, fun z hz => by cases hz⟩
theorem add_scan : ∀ (l : List Dd) (j : Nat) (s : List Dd × Mp), Knows s →
    (∃ s' : List Dd × Mp, scan (fun _ => addB) (fun s => .inr ((s.1, ()), (s.2, ()))) l j s = .inr ((s'.1, ()), (s'.2, ())) ∧ addAll s.1 l = some s'.1) ∨
    (scan (fun _ => addB) (fun s => .inr ((s.1, ()), (s.2, ()))) l j s = .inl ([], 13, ()) ∧ addAll s.1 l = none)
  | [], j, s, hk => .inl ⟨s, rfl, rfl⟩
  | d :: l, j, s, hk => by
    obtain ⟨h1, h2⟩ := addB_add (d := d) hk
    simp only [scan, addAll]
    cases h3 : addB d s with
    | inl s' =>
      rw [h3] at h1
      simp only at h1
      rw [← h1]
      exact add_scan l (j + 1) s' (addB_next h3 hk)
    | inr z =>
      rw [h3] at h1
      simp only at h1
      rw [← h1, h2 z h3]
      exact .inr ⟨rfl, rfl⟩
theorem addD_len {out o : List Dd} {d : Dd} (h : addD out d = some o) : o.length ≤ out.length + 1 := by
  unfold addD at h
  split at h
  · cases h; simp
  · rename_i x _
    cases hx : ddEq x d <;> rw [hx] at h
    · cases h
    · cases h; omega
theorem addD_mem {out o : List Dd} {d : Dd} (h : addD out d = some o) : ∀ x ∈ o, x ∈ out ∨ x = d := by
  unfold addD at h
  split at h
  · cases h; intro x hx; simpa using hx
  · rename_i y _
    cases hx : ddEq y d <;> rw [hx] at h
    · cases h
    · cases h; intro x hx; exact .inl hx
theorem addAll_len : ∀ (l out o : List Dd), addAll out l = some o → o.length ≤ out.length + l.length
  | [], out, o, h => by cases h; simp
  | d :: l, out, o, h => by
    obtain ⟨o1, h1, h2⟩ := Option.bind_eq_some_iff.1 h
    have := addD_len h1
    have := addAll_len l o1 o h2
    simp only [List.length_cons]
    omega
theorem addAll_mem : ∀ (l out o : List Dd), addAll out l = some o → ∀ x ∈ o, x ∈ out ∨ x ∈ l
  | [], out, o, h => by cases h; intro x hx; exact .inl hx
  | d :: l, out, o, h => by
    obtain ⟨o1, h1, h2⟩ := Option.bind_eq_some_iff.1 h
    intro x hx
    rcases addAll_mem l o1 o h2 x hx with h | h
    · exact (addD_mem h1 x h).imp id (fun e => by simp [e])
    · exact .inr (by simp [h])
theorem addAll_append : ∀ (l m out : List Dd), addAll out (l ++ m) = (addAll out l).bind fun o => addAll o m
  | [], m, out => rfl
  | d :: l, m, out => by
    simp only [List.cons_append, addAll]
    cases addD out d with
    | none => rfl
    | some o => exact addAll_append l m o
theorem addAll_new : ∀ (l out : List Dd), ((out ++ l).map nm).Nodup → addAll out l = some (out ++ l)
  | [], out, _ => by simp [addAll]
  | d :: l, out, h => by
    have h1 : out.find? (fun o => s157 o d) = none := by
      rw [List.find?_eq_none]
      intro o ho hod
      have := (s157_iff o d).1 hod
      rw [List.map_append, List.nodup_append] at h
      exact h.2.2 (nm o) (List.mem_map.2 ⟨o, ho, rfl⟩) (nm d) (by simp) this
    simp only [addAll, addD, h1, Option.bind_some]
    rw [addAll_new l (out ++ [d]) (by simpa using h)]
    simp
/-! ### sorts -/
noncomputable def s159_160 (xs : List Dd) : Option (List Dd) := sortF TD0 s160 xs
noncomputable def s159_154 (xs : List Dd) : Option (List Dd) := sortF TD0 s154 xs
theorem sortF_congr {T : Ty} {c1 c2 : T.den → T.den → Int} {xs : List T.den} (h : ∀ a ∈ xs, ∀ b ∈ xs, c1 a b = c2 a b) : sortF T c1 xs = sortF T c2 xs := by
  have e : (fun x y : Els T (· ∈ xs) => c1 x.1 y.1) = (fun x y : Els T (· ∈ xs) => c2 x.1 y.1) := by
    funext x y
    exact h x.1 x.2.2 y.1 y.2.2
  have eo : Orders T c1 xs ↔ Orders T c2 xs := by unfold Orders; rw [e]
  by_cases h1 : (∀ x ∈ xs, WF T x) ∧ xs.length < 4611686018427387904 ∧ Orders T c1 xs ∧ xs ≠ []
  · have h2 : (∀ x ∈ xs, WF T x) ∧ xs.length < 4611686018427387904 ∧ Orders T c2 xs ∧ xs ≠ [] := ⟨h1.1, h1.2.1, eo.1 h1.2.2.1, h1.2.2.2⟩
    unfold sortF
    rw [dif_pos h1, dif_pos h2]
    unfold pdqE
    rw [e]
  · have h2 : ¬ ((∀ x ∈ xs, WF T x) ∧ xs.length < 4611686018427387904 ∧ Orders T c2 xs ∧ xs ≠ []) := fun h => h1 ⟨h.1, h.2.1, eo.2 h.2.2.1, h.2.2.2⟩
    unfold sortF
    rw [dif_neg h1, dif_neg h2]
noncomputable def s61 (a b : List Dd) : Option (List Dd × Int × Unit) :=
  if nz [dFaults a, dFaults b] = 0 then
    match addAll [] (a ++ b) with
    | none => some ([], 13, ())
    | some out => if out.length > 1000 then some ([], 2, ()) else (sortF TD0 dCmp out).bind fun v => some (v, 0, ())
  else some ([], nz [dFaults a, dFaults b], ())
theorem h61 (a b : List Dd) (y : List Dd × Int × Unit) (hw : WFs A61 (a, b, ())) (h : s61 a b = some y) : ∃ k, f61 s68 s123 s158 s159_160 k a b = some y := by
  clear hw
  unfold s61 at h
  by_cases hz : nz [dFaults a, dFaults b] = 0
  · obtain ⟨z1, z2⟩ := nz2 hz
    have ha := deeds_of z1
    have hb := deeds_of z2
    have hla := ha.len
    have hlb := hb.len
    rw [if_pos hz] at h
    have hab : (a ++ b).length ≤ 2000 := by rw [List.length_append]; omega
    refine ⟨(a ++ b).length + 1, ?_⟩
    unfold f61
    have e1 : s158 [a, b] = some (a ++ b) := by
      unfold s158
      rw [show [a, b].flatten = a ++ b from by simp, if_pos (by omega)]
    simp only [show s123 = nz from rfl, show s68 = dFaults from rfl, hz, bne_self_eq_false, cond_false, e1, Option.bind_some]
    generalize a ++ b = l at *
    have hl : l.length ≤ 9223372036854775807 := by omega
    have hi := iter_scanI (f := fun y2 : (List Dd × Int × Unit) × (Mp × Unit) =>
        bif decide (y2.1.2.1 < (l.length : Int)) then
          bif inR y2.1.2.1 (l.length : Int) then
            bif inR y2.1.2.1 (l.length : Int) then
              bif !mhas nmEq (nm (rd (ByteArray.empty, 0, 0, 0, ByteArray.empty, ByteArray.empty, (ByteArray.empty, 0, 0, ()), (ByteArray.empty, ByteArray.empty, ByteArray.empty, ByteArray.empty, 0, 0, 0, 0, ()), ()) l y2.1.2.1)) y2.2.1.1 then
                bif decide (y2.1.1.length + [rd (ByteArray.empty, 0, 0, 0, ByteArray.empty, ByteArray.empty, (ByteArray.empty, 0, 0, ()), (ByteArray.empty, ByteArray.empty, ByteArray.empty, ByteArray.empty, 0, 0, 0, 0, ()), ()) l y2.1.2.1].length ≤ 4294967296) then
                  some (.inl ((y2.1.1 ++ [rd (ByteArray.empty, 0, 0, 0, ByteArray.empty, ByteArray.empty, (ByteArray.empty, 0, 0, ()), (ByteArray.empty, ByteArray.empty, ByteArray.empty, ByteArray.empty, 0, 0, 0, 0, ()), ()) l y2.1.2.1], IntKind.i64.wrap (y2.1.2.1 + 1), ()), (mput nmEq (nm (rd (ByteArray.empty, 0, 0, 0, ByteArray.empty, ByteArray.empty, (ByteArray.empty, 0, 0, ()), (ByteArray.empty, ByteArray.empty, ByteArray.empty, ByteArray.empty, 0, 0, 0, 0, ()), ()) l y2.1.2.1)) (rd (ByteArray.empty, 0, 0, 0, ByteArray.empty, ByteArray.empty, (ByteArray.empty, 0, 0, ()), (ByteArray.empty, ByteArray.empty, ByteArray.empty, ByteArray.empty, 0, 0, 0, 0, ()), ()) l y2.1.2.1) y2.2.1, ())))
                else none
              else
                bif !ddEq (mget nmEq (ByteArray.empty, 0, 0, 0, ByteArray.empty, ByteArray.empty, (ByteArray.empty, 0, 0, ()), (ByteArray.empty, ByteArray.empty, ByteArray.empty, ByteArray.empty, 0, 0, 0, 0, ()), ()) (nm (rd (ByteArray.empty, 0, 0, 0, ByteArray.empty, ByteArray.empty, (ByteArray.empty, 0, 0, ()), (ByteArray.empty, ByteArray.empty, ByteArray.empty, ByteArray.empty, 0, 0, 0, 0, ()), ()) l y2.1.2.1)) y2.2.1.1) (rd (ByteArray.empty, 0, 0, 0, ByteArray.empty, ByteArray.empty, (ByteArray.empty, 0, 0, ()), (ByteArray.empty, ByteArray.empty, ByteArray.empty, ByteArray.empty, 0, 0, 0, 0, ()), ()) l y2.1.2.1) then
                  some (.inr (.inl ([], 13, ())))
                else some (.inl ((y2.1.1, IntKind.i64.wrap (y2.1.2.1 + 1), ()), (y2.2.1, ())))
            else none
          else none
        else some (.inr (.inr ((y2.1.1, ()), (y2.2.1, ()))))) (s0 := (([], (0 : Int), ()), (([], 0), ()))) (k := l.length + 1) l (fun j s => ((s.1, (j : Int), ()), (s.2, ()))) (fun _ => addB) (fun s => .inr ((s.1, ()), (s.2, ()))) (fun j s => s.1.length ≤ j) ([], ([], 0)) (Nat.le_refl _) rfl (Nat.lt_succ_self _)
      (fun j x s s' hx hJ hs => by
        unfold addB at hs
        cases h1 : mhas nmEq (nm x) s.2.1 <;> rw [h1] at hs
        · cases hs; simp; exact hJ
        · simp only [Bool.not_true, cond_false] at hs
          cases h2 : ddEq (mget nmEq (ByteArray.empty, 0, 0, 0, ByteArray.empty, ByteArray.empty, (ByteArray.empty, 0, 0, ()), (ByteArray.empty, ByteArray.empty, ByteArray.empty, ByteArray.empty, 0, 0, 0, 0, ()), ()) (nm x) s.2.1) x <;> rw [h2] at hs
          · cases hs
          · cases hs; exact Nat.le_succ_of_le hJ)
      (fun j x s hx hJ => by
        have hj := (List.getElem?_eq_some_iff.1 hx).1
        simp only [lt_at hx, inR_at hx, rd_at hx, wrap_succ hx hl, cond_true, addB]
        rw [show decide (s.1.length + [x].length ≤ 4294967296) = true from decide_eq_true (by simp; omega)]
        cases mhas nmEq (nm x) s.2.1
        · rfl
        · simp only [Bool.not_true, cond_false]
          cases ddEq (mget nmEq (ByteArray.empty, 0, 0, 0, ByteArray.empty, ByteArray.empty, (ByteArray.empty, 0, 0, ()), (ByteArray.empty, ByteArray.empty, ByteArray.empty, ByteArray.empty, 0, 0, 0, 0, ()), ()) (nm x) s.2.1) x <;> rfl) (fun s _ => by simp)
    refine (congrArg (fun q => Option.bind q (fun r : (List Dd × Int × Unit) ⊕ ((List Dd × Unit) × (Mp × Unit)) => match r with | .inl z => some z | .inr z3 => bif (decide (((List.length z3.1.1 : Nat) : Int) > (1000 : Int))) then some ([], (2 : Int), ()) else Option.bind (s159_160 z3.1.1) fun v4 => some (v4, (0 : Int), ()))) hi).trans ?_
    rw [Option.bind_some]
    rcases add_scan l 0 ([], ([], 0)) (fun n => rfl) with ⟨s', h1, h2⟩ | ⟨h1, h2⟩
    · rw [h1]
      rw [h2] at h
      simp only at h ⊢
      rw [show (1000 : Int) = ((1000 : Nat) : Int) from rfl, len_gt]
      by_cases hn : s'.1.length > 1000
      · rw [if_pos hn] at h
        rw [decide_eq_true hn, cond_true]
        exact h
      · rw [if_neg hn] at h
        rw [decide_eq_false hn, cond_false]
        exact h
    · rw [h1]
      rw [h2] at h
      exact h
  · rw [if_neg hz] at h
    refine ⟨0, ?_⟩
    unfold f61
    rw [show s123 = nz from rfl, show s68 = dFaults from rfl]
    have : (nz [dFaults a, dFaults b] != 0) = true := by simpa using hz
    rw [this]
    exact h
end Go.Vm
