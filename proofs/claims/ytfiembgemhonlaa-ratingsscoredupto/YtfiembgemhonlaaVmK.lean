/- Vm, part 33: functions that write a row, that use one up and make another, or that make one. Own work. -/
import Derived.Test.YtfiembgemhonlaaVmD
import Derived.Sort.Grow
set_option linter.unusedVariables false
set_option linter.unusedSimpArgs false
namespace Go.Vm
open Go.RowKit
/-- a row and data -/
def rowArg0 (T : Ty) (As : Tys) (args : List PV) (objs : List OB) : Option (List T.den × As.den) :=
  match args with
  | [] => none
  | v :: l => match v with
    | .row o => match objs with
      | [b] => match b with
        | .row U xs => cond (Nat.beq o 0) ((castL U T xs).bind fun ys => (implodes As l).bind fun a => some (ys, a)) none
        | _ => none
      | _ => none
    | _ => none
theorem rowArg0_some {T : Ty} {As : Tys} {args : List PV} {objs : List OB} {x : List T.den × As.den} (h : rowArg0 T As args objs = some x) : ∃ l, args = .row 0 :: l ∧ objs = [.row T x.1] ∧ implodes As l = some x.2 := by
  unfold rowArg0 at h
  split at h
  · cases h
  · split at h
    · split at h
      · split at h
        · obtain ⟨h0, h⟩ := cond_some h
          have e := Nat.eq_of_beq_eq_true h0
          subst e
          obtain ⟨ys, h1, h⟩ := Option.bind_eq_some_iff.1 h
          obtain ⟨a, h2, h⟩ := Option.bind_eq_some_iff.1 h
          obtain ⟨e, h1⟩ := castL_some h1
          subst e; subst h1
          cases h
          exact ⟨_, rfl, rfl, h2⟩
        · cases h
      · cases h
    · cases h
/-- a function that writes a row, and returns nothing -/
def FSem.wfn (T : Ty) (As : Tys) (f : List T.den → As.den → Option (List T.den)) : FSem where
  modes := [.rw T]
  quiet := false
  run := fun args objs K => match rowArg0 T As args objs with
    | some x => (f x.1 x.2).bind fun ys => K (.tup []) [.row T ys]
    | none => none
  param := fun args objs K => by
    cases rowArg0 T As args objs with
    | none => rfl
    | some x => simp only; cases f x.1 x.2 <;> rfl
/-- a function that uses up a row, and gives back another -/
def FSem.cfn (T : Ty) (As : Tys) (f : List T.den → As.den → Option (List T.den)) : FSem where
  modes := [.rw T]
  quiet := false
  run := fun args objs K => match rowArg0 T As args objs with
    | some x => (f x.1 x.2).bind fun ys => K (.row 1) [.dead, .row T ys]
    | none => none
  param := fun args objs K => by
    cases rowArg0 T As args objs with
    | none => rfl
    | some x => simp only; cases f x.1 x.2 <;> rfl
/-- a function from data to a row -/
def FSem.mfn (T : Ty) (As : Tys) (f : As.den → Option (List T.den)) : FSem where
  modes := modesOf As
  quiet := true
  run := fun args objs K => match objs with
    | [] => match implodes As args with
      | some x => (f x).bind fun ys => K (.row 0) [.row T ys]
      | none => none
    | _ :: _ => none
  param := fun args objs K => by
    cases objs with
    | nil =>
      simp only
      cases implodes As args with
      | none => rfl
      | some x => simp only; cases f x <;> rfl
    | cons b l => rfl
/-- what a function gives back, if it is a row -/
def rowRes (T : Ty) (v : PV) (l : List OB) : Option (List T.den) :=
  match v with
  | .row o => asRow? l T o
  | .sub o lo hi => (asRow? l T o).bind fun xs => some ((xs.take hi.toNat).drop lo.toNat)
  | .nil => some []
  | _ => none
section
variable {P : Program} {w w' : World} {A A' : Nat → Prop}
theorem RowAt.len {T : Ty} {xs : List T.den} {v : Value} (h : RowAt w A T xs v) : xs.length ≤ 9223372036854775807 := by
  rcases h.cases with ⟨rfl, _⟩ | ⟨_, b, off, c, _, cs, t, _, h2, h3, _⟩
  · simp
  · omega
/-- the row that a function has been handed -/
theorem row_arg {T : Ty} {xs : List T.den} {μ : Nat → Value} (hO : Objs w A (obs [.row T xs]) μ) {x : Value} (hv : VR w A (obs [.row T xs]) μ (.row 0) x) :
    RowAt w A T xs x ∧ HeadR (μ 0) x ∧ ((¬ ∃ a, x = .slice a 0 0) → μ 0 = x) := by
  have hob : obs [.row T xs] 0 = .row T xs := rfl
  have hm := hv.row hob
  exact ⟨((hO.each 0).rowAt hob).head hm, hm, fun h => hm.elim id (fun ⟨_, e⟩ => absurd e h)⟩
theorem one_own {b : OB} {μ : Nat → Value} {x : Nat} (h : own (obs [b]) μ x) : blkOf (μ 0) = some x := by
  obtain ⟨i, h1, h2⟩ := h
  cases i with
  | zero => exact h2
  | succ i => simp [obs, OB.alive] at h1
theorem asRow_some {l : List OB} {T : Ty} {o : Nat} {xs : List T.den} (h : asRow? l T o = some xs) : obs l o = .row T xs := by
  unfold asRow? at h
  split at h
  · rename_i U ys hob
    obtain ⟨e, h2⟩ := castL_some h
    subst e; subst h2
    exact hob
  · cases h
theorem rowRes_own {T : Ty} {ys : List T.den} {objs : List OB} {μ : Nat → Value} {res : PV} {v : Value} (hO : ∀ o, OR w A (obs objs) μ o) (hv : VR w A (obs objs) μ res v) (h : rowRes T res objs = some ys) :
    ∃ hd, HeadR hd v ∧ v.oneCell' = true ∧ (ys = [] ∧ hd = .slice none 0 0 ∨ ∃ b off c, hd = .slice (some ⟨b, off, none⟩) ys.length c ∧ RealRow w A T ys b off c) ∧ ∀ b, blkOf hd = some b → own (obs objs) μ b := by
  unfold rowRes at h
  split at h
  · rename_i o
    have hob := asRow_some h
    have hm := hv.row hob
    have hra := (hO o).rowAt hob
    have hblk : blkOf v = blkOf (μ o) ∨ ∃ a, v = .slice a 0 0 := hm.elim (fun e => .inl (by rw [e])) (fun e => .inr e.2)
    obtain ⟨hd, g1, g2, g3, g4⟩ := rowAt_own (hra.head hm) hblk
    exact ⟨hd, g1, g2, g3, fun b hb => ⟨o, by rw [hob]; rfl, g4 b hb⟩⟩
  · rename_i o lo hi
    obtain ⟨xs, h1, h2⟩ := Option.bind_eq_some_iff.1 h
    cases h2
    have hob := asRow_some h1
    obtain ⟨hra, _, hbk, _⟩ := ((hO o).rowAt hob).sub (hv.subv hob)
    obtain ⟨hd, g1, g2, g3, g4⟩ := rowAt_own hra hbk
    exact ⟨hd, g1, g2, g3, fun b hb => ⟨o, by rw [hob]; rfl, g4 b hb⟩⟩
  · cases h
    have e := hv.nil
    subst e
    exact ⟨_, .inl rfl, rfl, .inl ⟨rfl, rfl⟩, fun b hb => by cases hb⟩
  · cases h
theorem obs_last (n : Nat) (b : OB) (i : Nat) : obs (List.replicate n .dead ++ [b]) i = if i = n then b else .dead := by
  unfold obs
  simp only [List.getD, List.getElem?_append, List.length_replicate, List.getElem?_replicate]
  by_cases h : i < n
  · rw [if_pos h, if_pos h, if_neg (by omega)]; rfl
  · rw [if_neg h]
    by_cases e : i = n
    · subst e; simp
    · rw [if_neg e]
      have : i - n ≠ 0 := by omega
      cases hq : i - n with
      | zero => omega
      | succ m => simp
/-- what is right of a function that gives back a row and no other object -/
theorem row_post {T : Ty} {ys : List T.den} {objs objs' : List OB} {μ μ' : Nat → Value} {res : PV} {v : Value} (hp : CallPost w w' A objs μ objs' μ' res v) (h : rowRes T res objs' = some ys) :
    ∃ μ2, CallPost w w' A objs μ (List.replicate objs.length .dead ++ [.row T ys]) μ2 (.row objs.length) v := by
  obtain ⟨hd, g1, g2, g3, g4⟩ := rowRes_own hp.lie.each hp.res h
  refine ⟨fun i => if i = objs.length then hd else μ' i, ?_⟩
  have hown : ∀ b, own (obs (List.replicate objs.length .dead ++ [.row T ys])) (fun i => if i = objs.length then hd else μ' i) b → blkOf hd = some b := by
    rintro b ⟨i, k1, k2⟩
    rw [obs_last] at k1
    by_cases e : i = objs.length
    · simp only [e, if_true] at k2; exact k2
    · rw [if_neg e] at k1; cases k1
  have hown' : ∀ b, own (obs (List.replicate objs.length .dead ++ [.row T ys])) (fun i => if i = objs.length then hd else μ' i) b → own (obs objs') μ' b := fun b hb => g4 b (hown b hb)
  have hsub : ∀ b, (A b ∨ own (obs (List.replicate objs.length .dead ++ [.row T ys])) (fun i => if i = objs.length then hd else μ' i) b) → (A b ∨ own (obs objs') μ' b) := fun b hb => hb.imp id (hown' b)
  refine ⟨by simp, hp.keep, ⟨fun o => ?_, fun o o' b h1 h2 h3 h4 => ?_, fun b hb => .inr hb, fun b hb => hp.lie.old b (hsub b hb)⟩, ?_, fun b hb => hp.mine b (hown' b hb), fun i hi => ?_⟩
  · by_cases e : o = objs.length
    · subst e
      have hob : obs (List.replicate objs.length .dead ++ [.row T ys]) objs.length = .row T ys := by rw [obs_last, if_pos rfl]
      rcases g3 with ⟨rfl, rfl⟩ | ⟨b, off, c, e, hreal⟩
      · unfold OR
        rw [hob]
        exact .inl ⟨rfl, by simp⟩
      · exact (hreal.mono hsub).or hob (by simp [e])
    · unfold OR
      rw [obs_last, if_neg e]; trivial
  · rw [obs_last] at h1 h2
    by_cases e : o = objs.length
    · by_cases e' : o' = objs.length
      · rw [e, e']
      · rw [if_neg e'] at h2; cases h2
    · rw [if_neg e] at h1; cases h1
  · refine .of_one ?_ ?_ rfl
    · simp only [CR]
      exact ⟨v, rfl, g2, by rw [obs_last, if_pos rfl]; simpa using g1⟩
    · cases v <;> first | rfl | cases g2
  · unfold Later
    rw [obs_last, if_neg (by omega)]; trivial
variable {E : Nat → Env}
theorem mfn_of_calls {f : FuncId} {T : Ty} {As : Tys} {F : As.den → Option (List T.den)} (hen : Enters P f)
    (hg : ∀ (x : As.den) (ys : List T.den), WFs As x → F x = some ys → ∀ (w : World) (A : Nat → Prop) (μ : Nat → Value) (vals : List Value), Objs w A (obs []) μ → TRs w A (obs []) μ (explodes As x) vals →
      Calls P f vals.toArray w fun e w' => ∃ v res objs' μ', e = .returned v ∧ rowRes T res objs' = some ys ∧ CallPost w w' A [] μ objs' μ' res v) : SoundF P f (FSem.mfn T As F) := by
  intro ρ args objs K r hr
  cases objs with
  | cons b l => simp only [FSem.mfn, reduceCtorEq] at hr
  | nil =>
    simp only [FSem.mfn] at hr
    split at hr
    · rename_i x hx
      obtain ⟨ys, hy, hK⟩ := Option.bind_eq_some_iff.1 hr
      refine ⟨hen, fun w A μ vals hO hargs => ?_⟩
      refine (hg x ys (implodes_wf As args x vals hx hargs) hy w A μ vals hO (implodes_TRs As args x vals hx hargs)).mono ?_
      rintro e w' ⟨v, res, objs', μ', rfl, h1, h2⟩
      obtain ⟨μ2, h3⟩ := row_post h2 h1
      exact ⟨v, _, _, μ2, rfl, hK, h3⟩
    · cases hr
/-- A FUNCTION FROM DATA TO A ROW. -/
theorem mfn_sound (hE : ∀ k, EnvOK P (E k)) (hm : P.follows .mixedOrders = true) {H : Hints} {f : FuncId} {fn : Func} {code : Code} {nt : Nat} {rs : List ResultVar} (hf : P.funcs[f]? = some fn) (hname : (fn.name == "runtime.NumGoroutine") = false) (hb : fn.body = some code) (hnt : fn.ntmps = nt) (hrs : fn.results.toList = rs) {T : Ty} {As : Tys} {F : As.den → Option (List T.den)}
    (hg : ∀ (x : As.den) (ys : List T.den), WFs As x → F x = some ys → ∃ k, evFun (E k) H k code nt rs (explodes As x) [] (rowRes T) = some ys) : SoundF P f (FSem.mfn T As F) :=
  mfn_of_calls (enters_of hf hname hb) fun x ys hw hy w A μ vals hO hargs => by
    obtain ⟨k, hk⟩ := hg x ys hw hy
    rw [evFun_param] at hk
    split at hk
    · rename_i p hp
      have hs : SoundF P f (FSem.ev (E k) H k code nt rs) := fun_sound (hE k) hm (H := H) hf hname hb hnt hrs (fun args objs K r h => ⟨k, h⟩)
      obtain ⟨_, hcalls⟩ := hs _ [] (fun v l => some (v, l)) p hp
      refine (hcalls w A μ _ hO hargs).mono ?_
      rintro e w' ⟨v, res, objs', μ', rfl, hpe, hpost⟩
      simp only [Option.some.injEq] at hpe
      subst hpe
      exact ⟨v, _, _, μ', rfl, hk, hpost⟩
    · cases hk
/-- A FUNCTION THAT USES UP A ROW AND GIVES BACK ANOTHER. -/
theorem cfn_sound (hE : ∀ k, EnvOK P (E k)) (hm : P.follows .mixedOrders = true) {H : Hints} {f : FuncId} {fn : Func} {code : Code} {nt : Nat} {rs : List ResultVar} (hf : P.funcs[f]? = some fn) (hname : (fn.name == "runtime.NumGoroutine") = false) (hb : fn.body = some code) (hnt : fn.ntmps = nt) (hrs : fn.results.toList = rs) {T : Ty} {As : Tys} {F : List T.den → As.den → Option (List T.den)}
    (hg : ∀ (xs : List T.den) (a : As.den) (ys : List T.den), xs.length ≤ 9223372036854775807 → WFs As a → F xs a = some ys → ∃ k, evFun (E k) H k code nt rs (.row 0 :: explodes As a) [.row T xs] (rowRes T) = some ys) : SoundF P f (FSem.cfn T As F) := by
  intro ρ args objs K r h
  simp only [FSem.cfn] at h
  split at h
  · rename_i x hx
    obtain ⟨ys, hy, hK⟩ := Option.bind_eq_some_iff.1 h
    obtain ⟨l, rfl, rfl, h2⟩ := rowArg0_some hx
    refine ⟨enters_of hf hname hb, fun w A μ vals hO hargs => ?_⟩
    simp only [TRs] at hargs
    obtain ⟨xv, rest, rfl, hv, hrest⟩ := hargs
    have hwf := implodes_wf As l x.2 rest h2 hrest
    have htr := implodes_TRs As l x.2 rest h2 hrest
    obtain ⟨g1, g2, g3⟩ := row_arg hO hv
    obtain ⟨k, hk⟩ := hg x.1 x.2 ys g1.len hwf hy
    rw [evFun_param] at hk
    split at hk
    · rename_i p hp
      have hs : SoundF P f (FSem.ev (E k) H k code nt rs) := fun_sound (hE k) hm (H := H) hf hname hb hnt hrs (fun args objs K r h => ⟨k, h⟩)
      obtain ⟨_, hcalls⟩ := hs _ _ (fun v l => some (v, l)) p hp
      refine (hcalls w A μ (xv :: rest) hO (by simp only [TRs]; exact ⟨xv, rest, rfl, hv, htr⟩)).mono ?_
      rintro e w' ⟨v, res, objs', μ', rfl, hpe, hpost⟩
      simp only [Option.some.injEq] at hpe
      subst hpe
      obtain ⟨μ2, h3⟩ := row_post hpost hk
      exact ⟨v, _, _, μ2, rfl, hK, h3⟩
    · cases hk
  · cases h
/-- two halves of a function -/
theorem mfn_or {f : FuncId} {T : Ty} {As : Tys} {g g1 g2 : As.den → Option (List T.den)} (h1 : SoundF P f (FSem.mfn T As g1)) (h2 : SoundF P f (FSem.mfn T As g2)) (h : ∀ x y, g x = some y → g1 x = some y ∨ g2 x = some y) : SoundF P f (FSem.mfn T As g) := by
  intro ρ args objs K r hr
  cases objs with
  | cons b l => simp only [FSem.mfn, reduceCtorEq] at hr
  | nil =>
    simp only [FSem.mfn] at hr
    split at hr
    · rename_i x hx
      obtain ⟨y, hy, hK⟩ := Option.bind_eq_some_iff.1 hr
      rcases h x y hy with h | h
      · exact h1 args [] K r (by simp only [FSem.mfn, hx, h, Option.bind_some]; exact hK)
      · exact h2 args [] K r (by simp only [FSem.mfn, hx, h, Option.bind_some]; exact hK)
    · cases hr
/-- slices.Clone, as a row -/
theorem clone_row {f : FuncId} {T : Ty} {g1 : (Tys.cons (.slice T) .nil).den → Option (List T.den)} (h1 : SoundF P f (FSem.mfn T (.cons (.slice T) .nil) g1)) (hen : Enters P f)
    (hg1 : ∀ xs : List T.den, xs ≠ [] → xs.length ≤ 4294967296 → g1 (xs, ()) = some xs)
    (h0 : ∀ (a : Option Addr) (c : Nat) (w : World), Calls P f #[.slice a 0 c] w fun e w' => ∃ a', e = .returned (.slice a' 0 0) ∧ Keep None w w') :
    SoundF P f (FSem.mfn T (.cons (.slice T) .nil) fun x => if List.length x.1 ≤ 4294967296 then some x.1 else none) := by
  have h2 : SoundF P f (FSem.mfn T (.cons (.slice T) .nil) fun x => match (show List T.den from x.1) with | [] => some ([] : List T.den) | _ :: _ => none) := by
    refine mfn_of_calls hen (fun x y hwf hy w A μ vals hO hv => ?_)
    obtain ⟨xs, ⟨⟩⟩ := x
    cases xs with
    | nil =>
      cases hy
      simp only [explodes, explode, TRs] at hv
      obtain ⟨v, rest, rfl, hv, rfl⟩ := hv
      have hd := VR.sl (ob := obs []) (μ := μ) hv
      simp only [DR] at hd
      obtain ⟨a, c, e, _, _⟩ := hd
      simp only [List.cons.injEq, and_true] at e
      subst e
      refine (h0 a c w).mono ?_
      rintro e w' ⟨a', rfl, hk⟩
      have hob0 : obs [.row T []] 0 = .row T [] := rfl
      have hno : ∀ b, own (obs [.row T []]) (fun _ => .slice none 0 0) b → False := fun b hb => by have := one_own hb; cases this
      refine ⟨_, .row 0, [.row T []], fun _ => .slice none 0 0, rfl, ?_, ⟨by simp, hk.mono (fun _ _ h => h.elim), ⟨fun o => ?_, fun o o' b h1 h2 h3 h4 => (by cases h3), fun b hb => .inr hb, fun b hb => ?_⟩, ?_, fun b hb => (hno b hb).elim, fun i hi => by simp at hi⟩⟩
      · simp [rowRes, asRow?, castL]
      · cases o with
        | zero => unfold OR; rw [hob0]; exact .inl ⟨rfl, rfl⟩
        | succ o => unfold OR; simp [obs]
      · rcases hb with hb | hb
        · exact Nat.lt_of_lt_of_le (hO.old b hb) hk.size
        · exact (hno b hb).elim
      · refine .of_one ?_ rfl rfl
        simp only [CR]
        exact ⟨_, rfl, rfl, by rw [hob0]; exact .inr ⟨rfl, _, rfl⟩⟩
    | cons x xs => cases hy
  have h3 : ∀ (x : (Tys.cons (.slice T) .nil).den) (y : List T.den), (if List.length x.1 ≤ 4294967296 then some x.1 else none) = some y → g1 x = some y ∨ (match (show List T.den from x.1) with | [] => some ([] : List T.den) | _ :: _ => none) = some y := by
    rintro ⟨xs, ⟨⟩⟩ y hy
    split at hy
    · rename_i hl
      cases hy
      cases xs with
      | nil => exact .inr rfl
      | cons z xs => exact .inl (hg1 _ (by simp) hl)
    · cases hy
  intro ρ args objs K r hr
  exact mfn_or h1 h2 h3 args objs K r hr
end
/-- functions in which a slice of a row is seen -/
def mkEnvV (ts : List (Nat × TD)) (fs : List (Nat × FSem)) : Env := { mkEnv ts fs with view := true }
theorem mkEnvV_ok {P : Program} {ts : List (Nat × TD)} {fs : List (Nat × FSem)} (h1 : chkTypes P ts = true) (h2 : ∀ p ∈ fs, SoundF P p.1 p.2) : EnvOK P (mkEnvV ts fs) := mkEnv_ok h1 h2
end Go.Vm

/- Vm, part 34: sorts of the library, by the contracts of the kit. Own work. -/
set_option linter.unusedVariables false
set_option linter.unusedSimpArgs false
namespace Go.Vm
open Go.RowKit Go.Sort
section
variable {P : Program} {w : World} {A : Nat → Prop}
theorem put_at {α : Type} [Inhabited α] {enc : α → Value} {b off : Nat} {d : Array α} {n : Nat} {os : Array Obj} {x : Nat} (hx : x < w.heap.size) : (grow (putRow enc (Sort.ahead w n) b off d) os).heap[x]? = if x = b then (w.heap[b]?).map (onCells (putCells enc off d)) else w.heap[x]? := by
  simp only [grow, putRow, mapBlock, Sort.ahead]
  rw [Array.getElem?_append_left (by simpa using hx), Array.getElem?_modify]
  by_cases e : b = x
  · subst e; simp
  · rw [if_neg e, if_neg (fun h => e h.symm)]
theorem keep_put {α : Type} [Inhabited α] {enc : α → Value} {b off : Nat} {d : Array α} {n : Nat} {os : Array Obj} : Keep (· = b) w (grow (putRow enc (Sort.ahead w n) b off d) os) := by
  refine ⟨rfl, rfl, rfl, by simp [grow, putRow, mapBlock, Sort.ahead], by simp [grow, putRow, mapBlock, Sort.ahead], fun a ha => ?_, fun x hx hn => ?_, fun x cs t z hx => ?_⟩
  rotate_left 2
  · rw [put_at (heap_lt hx)]
    by_cases e : x = b
    · subst e
      rw [if_pos rfl, hx]
      exact ⟨_, rfl⟩
    · rw [if_neg e]; exact ⟨cs, hx⟩
  · unfold World.frozen?
    rw [put_at ha]
    by_cases e : a.block = b
    · rw [if_pos e, ← e]
      cases w.heap[a.block]? with
      | none => rfl
      | some o => cases o <;> rfl
    · rw [if_neg e]
  · rw [put_at hx, if_neg hn]
/-- a row of elements of one cell is written anew -/
theorem real_put {T : Ty} (hT : T.cells = 1) {xs : List T.den} {b off c : Nat} (h : RealRow w A T xs b off c) {α : Type} [Inhabited α] {enc : α → Value} {zs : List α} (hz : zs.length = xs.length) (f : α → T.den) (hdr : ∀ a ∈ zs, DR w A T (f a) [enc a]) (hA : A b) (n : Nat) (os : Array Obj) :
    RealRow (grow (putRow enc (Sort.ahead w n) b off zs.toArray) os) A T (zs.map f) b off c := by
  obtain ⟨cs, t, h1, h2, h3, h4, h5⟩ := h
  have hb : b < w.heap.size := by
    rcases Nat.lt_or_ge b w.heap.size with g | g
    · exact g
    · rw [Array.getElem?_eq_none g] at h1; cases h1
  refine ⟨putCells enc off zs.toArray cs, t, by rw [put_at hb, if_pos rfl, h1]; rfl, by rw [List.length_map, hz]; exact h2, h3, by simpa [putCells] using h4, fun i x hx => ?_⟩
  simp only [nth, List.getElem?_map, Option.map_eq_some_iff] at hx
  obtain ⟨a, ha, rfl⟩ := hx
  have hi := (List.getElem?_eq_some_iff.1 ha).1
  refine ⟨[enc a], DR.keep keep_put (fun _ _ h => h) (fun x e => by subst e; exact hA) _ _ _ (hdr a (List.mem_of_getElem? ha)), fun j v hj => ?_⟩
  cases j with
  | succ j => cases hj
  | zero =>
    simp only [List.getElem?_cons_zero, Option.some.injEq] at hj
    subst hj
    have hc : off + i * T.cells + 0 < cs.size := by
      rw [hT] at h4 ⊢; omega
    simp only [putCells, Array.getElem?_mapIdx, Array.getElem?_eq_getElem hc, Option.map_some]
    have e0 : off + i * T.cells + 0 = off + i := by rw [hT]; omega
    rw [if_pos (by rw [e0]; simp; omega), e0]
    have e1 : off + i - off = i := by omega
    rw [e1]
    have : zs.toArray[i]! = a := by
      rw [getElem!_pos zs.toArray i (by simpa using hi)]
      have := List.getElem?_eq_some_iff.1 ha
      obtain ⟨_, e⟩ := this
      simpa using e
    rw [this]
theorem real_holds {T : Ty} (hT : T.cells = 1) {xs : List T.den} {b off c : Nat} (h : RealRow w A T xs b off c) {α : Type} [Inhabited α] {enc : α → Value} {zs : List α} (hz : zs.length = xs.length)
    (hdr : ∀ (i : Nat) (x : T.den) (a : α) (cx : List Value), xs[i]? = some x → zs[i]? = some a → DR w A T x cx → cx = [enc a]) : Holds enc w b off zs.toArray := by
  obtain ⟨cs, t, h1, h2, h3, h4, h5⟩ := h
  intro j hj
  have hj' : j < zs.length := by simpa using hj
  have hx : xs[j]? = some xs[j] := List.getElem?_eq_getElem (by omega)
  obtain ⟨cx, g1, g2⟩ := h5 j _ hx
  have e := hdr j _ zs[j] cx hx (List.getElem?_eq_getElem hj') g1
  subst e
  have := g2 0 _ rfl
  refine ⟨?_, ?_⟩
  · simp only [World.cell?, h1]
    rw [hT] at this
    have e2 : zs.toArray[j]! = zs[j] := by rw [getElem!_pos zs.toArray j hj]; simp
    rw [e2]
    simpa using this
  · simp [World.frozen?, h1]
theorem real_blk {T : Ty} {xs : List T.den} {b off c : Nat} (h : RealRow w A T xs b off c) : b < w.heap.size := by
  obtain ⟨cs, t, h1, _⟩ := h
  rcases Nat.lt_or_ge b w.heap.size with g | g
  · exact g
  · rw [Array.getElem?_eq_none g] at h1; cases h1
end
end Go.Vm

/- Vm, part 35: slices.Compact, for whatever elements. Own work. -/
set_option linter.unusedVariables false
set_option linter.unusedSimpArgs false
namespace Go.Vm
section
variable {σ τ : Type}
/-- A LOOP ALONG A PATH. -/
theorem iter_path {f : σ → Option (σ ⊕ τ)} {s0 : σ} {k : Nat} (st : Nat → σ) (t : τ) (n : Nat) (hs : s0 = st 0) (hk : n < k) (h1 : ∀ j, j < n → f (st j) = some (.inl (st (j + 1)))) (h2 : f (st n) = some (.inr t)) : iter k f s0 = some t := by
  have go : ∀ (k m : Nat), m ≤ n → n - m < k → iter k f (st m) = some t := by
    intro k
    induction k with
    | zero => intro m _ h; omega
    | succ k ih =>
      intro m hm h
      rcases Nat.lt_or_ge m n with hlt | hge
      · simp only [iter, h1 m hlt, Option.bind_some]
        exact ih (m + 1) (by omega) (by omega)
      · have : m = n := by omega
        subst this
        simp only [iter, h2, Option.bind_some]
  subst hs
  exact go k 0 (by omega) (by omega)
end
section
variable {α : Type}
/-- the first of each run of equal elements -/
def dedupFrom (eq : α → α → Bool) (p : α) : List α → List α
  | [] => []
  | x :: l => bif eq x p then dedupFrom eq x l else x :: dedupFrom eq x l
def dedup (eq : α → α → Bool) : List α → List α
  | [] => []
  | x :: l => x :: dedupFrom eq x l
theorem dedupFrom_snoc (eq : α → α → Bool) (x : α) : ∀ (l : List α) (p : α), dedupFrom eq p (l ++ [x]) = dedupFrom eq p l ++ (bif eq x ((p :: l).getLast (by simp)) then [] else [x])
  | [], p => by simp [dedupFrom]
  | y :: l, p => by
    simp only [List.cons_append, dedupFrom, dedupFrom_snoc eq x l y, List.getLast_cons_cons]
    cases eq y p <;> simp
theorem dedup_take (eq : α → α → Bool) {xs : List α} {j : Nat} {x p : α} (hj : 1 ≤ j) (hx : xs[j]? = some x) (hp : xs[j - 1]? = some p) : dedup eq (xs.take (j + 1)) = dedup eq (xs.take j) ++ (bif eq x p then [] else [x]) := by
  have hjl := (List.getElem?_eq_some_iff.1 hx).1
  have e : xs.take (j + 1) = xs.take j ++ [x] := by
    rw [List.take_add_one, hx]; rfl
  rw [e]
  cases hxs : xs.take j with
  | nil =>
    rw [List.take_eq_nil_iff] at hxs
    rcases hxs with h | h
    · omega
    · rw [h] at hjl; simp at hjl
  | cons y l =>
    simp only [dedup, List.cons_append, dedupFrom_snoc]
    have hlast : (y :: l).getLast (by simp) = p := by
      have h1 : (xs.take j).getLast? = some p := by
        rw [List.getLast?_eq_getElem?, List.length_take, Nat.min_eq_left (by omega), List.getElem?_take, if_pos (by omega), hp]
      rw [hxs, List.getLast?_eq_some_getLast (by simp)] at h1
      exact Option.some.inj h1
    rw [hlast]
theorem dedup_len (eq : α → α → Bool) : ∀ (l : List α), (dedup eq l).length ≤ l.length
  | [] => by simp [dedup]
  | x :: l => by
    have : ∀ (l : List α) (p : α), (dedupFrom eq p l).length ≤ l.length := by
      intro l
      induction l with
      | nil => intro p; simp [dedupFrom]
      | cons y l ih => intro p; simp only [dedupFrom]; have := ih y; cases eq y p <;> simp <;> omega
    simp [dedup, this l x]
theorem first_dup (eq : α → α → Bool) (xs : List α) : ∀ n, 1 ≤ n → n ≤ xs.length → (∀ j, 1 ≤ j → j < n → ∀ x p, xs[j]? = some x → xs[j - 1]? = some p → eq x p = false) ∨
    ∃ k, 1 ≤ k ∧ k < n ∧ (∃ x p, xs[k]? = some x ∧ xs[k - 1]? = some p ∧ eq x p = true) ∧ ∀ j, 1 ≤ j → j < k → ∀ x p, xs[j]? = some x → xs[j - 1]? = some p → eq x p = false
  | 0, h, _ => by omega
  | 1, _, _ => .inl fun j h1 h2 => by omega
  | n + 2, _, hn => by
    rcases first_dup eq xs (n + 1) (by omega) (by omega) with h | ⟨k, h1, h2, h3⟩
    · have hx : xs[n + 1]? = some xs[n + 1] := List.getElem?_eq_getElem (by omega)
      have hp : xs[n]? = some xs[n] := List.getElem?_eq_getElem (by omega)
      by_cases he : eq xs[n + 1] xs[n] = true
      · exact .inr ⟨n + 1, by omega, by omega, ⟨_, _, hx, hp, he⟩, h⟩
      · refine .inl fun j h1 h2 x p hx' hp' => ?_
        by_cases e : j = n + 1
        · subst e
          rw [hx] at hx'; rw [show n + 1 - 1 = n from rfl, hp] at hp'
          cases hx'; cases hp'
          simpa using he
        · exact h j h1 (by omega) x p hx' hp'
    · exact .inr ⟨k, h1, by omega, h3⟩
theorem dedup_none (eq : α → α → Bool) {xs : List α} : ∀ n, n ≤ xs.length → (∀ j, 1 ≤ j → j < n → ∀ x p, xs[j]? = some x → xs[j - 1]? = some p → eq x p = false) → dedup eq (xs.take n) = xs.take n
  | 0, _, _ => by simp [dedup]
  | 1, h, _ => by
    cases xs with
    | nil => simp at h
    | cons x l => simp [dedup, dedupFrom]
  | n + 2, h, hno => by
    have hx : xs[n + 1]? = some xs[n + 1] := List.getElem?_eq_getElem (by omega)
    have hp : xs[n]? = some xs[n] := List.getElem?_eq_getElem (by omega)
    rw [dedup_take eq (j := n + 1) (by omega) hx hp, dedup_none eq (n + 1) (by omega) (fun j h1 h2 => hno j h1 (by omega)), hno (n + 1) (by omega) (by omega) _ _ hx hp]
    conv => rhs; rw [List.take_add_one, hx]
    simp
variable (d : α) (eq ne : α → α → Bool)
/-- Go's slices.Compact, as these texts read it -/
def compactF (k : Nat) (x0 : List α) : Option (List α) :=
  bif (decide (((List.length x0 : Nat) : Int) < (2 : Int))) then
    some x0
  else
    Option.bind (α := (List α) ⊕ ((Unit) × (Unit))) (iter (σ := (Int × Unit) × (Unit)) (τ := (List α) ⊕ ((Unit) × (Unit))) k (fun y1 =>
        bif (decide (y1.1.1 < ((List.length x0 : Nat) : Int))) then
          bif (inR y1.1.1 ((List.length x0 : Nat) : Int)) then
            bif (inR y1.1.1 ((List.length x0 : Nat) : Int)) then
              bif (inR (IntKind.i64.wrap (y1.1.1 - (1 : Int))) ((List.length x0 : Nat) : Int)) then
                bif (inR (IntKind.i64.wrap (y1.1.1 - (1 : Int))) ((List.length x0 : Nat) : Int)) then
                  bif (eq (rd d x0 y1.1.1) (rd d x0 (IntKind.i64.wrap (y1.1.1 - (1 : Int))))) then
                    bif (decide (0 ≤ y1.1.1) && (decide (y1.1.1 ≤ ((List.length x0 : Nat) : Int)) && decide (((List.length x0 : Nat) : Int) ≤ ((List.length x0 : Nat) : Int)))) then
                      Option.bind (α := (((Int × Unit) × (Unit)) ⊕ ((List α) ⊕ ((Unit) × (Unit)))) ⊕ ((Int × Unit) × ((List α) × Unit))) (iter (σ := (Int × Int × Unit) × ((List α) × Unit)) (τ := (((Int × Unit) × (Unit)) ⊕ ((List α) ⊕ ((Unit) × (Unit)))) ⊕ ((Int × Unit) × ((List α) × Unit))) k (fun y2 =>
                          bif (decide (y2.1.2.1 < (((List.length x0 : Nat) : Int) - y1.1.1))) then
                            bif (inR y2.1.2.1 (((List.length x0 : Nat) : Int) - y1.1.1)) then
                              bif (inR (y1.1.1 + y2.1.2.1) ((List.length y2.2.1 : Nat) : Int)) then
                                bif (inR (IntKind.i64.wrap (y2.1.2.1 - (1 : Int))) (((List.length x0 : Nat) : Int) - y1.1.1)) then
                                  bif (inR (y1.1.1 + (IntKind.i64.wrap (y2.1.2.1 - (1 : Int)))) ((List.length y2.2.1 : Nat) : Int)) then
                                    bif (ne (rd d y2.2.1 (y1.1.1 + y2.1.2.1)) (rd d y2.2.1 (y1.1.1 + (IntKind.i64.wrap (y2.1.2.1 - (1 : Int)))))) then
                                      bif (inR y2.1.2.1 (((List.length x0 : Nat) : Int) - y1.1.1)) then
                                        bif (inR (y1.1.1 + y2.1.2.1) ((List.length y2.2.1 : Nat) : Int)) then
                                          bif (inR y2.1.1 ((List.length y2.2.1 : Nat) : Int)) then
                                            bif (inR y2.1.1 ((List.length y2.2.1 : Nat) : Int)) then
                                              some (.inl (((IntKind.i64.wrap (y2.1.1 + (1 : Int))), (IntKind.i64.wrap (y2.1.2.1 + (1 : Int))), ()), ((List.set y2.2.1 (Int.toNat y2.1.1) (rd d y2.2.1 (y1.1.1 + y2.1.2.1))), ())))
                                            else
                                              none
                                          else
                                            none
                                        else
                                          none
                                      else
                                        none
                                    else
                                      some (.inl ((y2.1.1, (IntKind.i64.wrap (y2.1.2.1 + (1 : Int))), ()), (y2.2.1, ())))
                                  else
                                    none
                                else
                                  none
                              else
                                none
                            else
                              none
                          else
                            some (.inr (.inr ((y2.1.1, ()), (y2.2.1, ()))))) ((y1.1.1, (1 : Int), ()), (x0, ()))) fun r => match r with
                      | .inl z => some z
                      | .inr z3 =>
                        bif (decide (0 ≤ z3.1.1) && (decide (z3.1.1 ≤ ((List.length z3.2.1 : Nat) : Int)) && decide (((List.length z3.2.1 : Nat) : Int) ≤ ((List.length z3.2.1 : Nat) : Int)))) then
                          bif (decide (0 ≤ (0 : Int)) && (decide ((0 : Int) ≤ z3.1.1) && decide (z3.1.1 ≤ ((List.length (List.take (Int.toNat z3.1.1) z3.2.1 ++ (List.replicate (Int.toNat (((List.length z3.2.1 : Nat) : Int) - z3.1.1)) d ++ List.drop (Int.toNat ((List.length z3.2.1 : Nat) : Int)) z3.2.1)) : Nat) : Int)))) then
                            some (.inr (.inl (List.drop (Int.toNat (0 : Int)) (List.take (Int.toNat z3.1.1) (List.take (Int.toNat z3.1.1) z3.2.1 ++ (List.replicate (Int.toNat (((List.length z3.2.1 : Nat) : Int) - z3.1.1)) d ++ List.drop (Int.toNat ((List.length z3.2.1 : Nat) : Int)) z3.2.1))))))
                          else
                            none
                        else
                          none
                    else
                      none
                  else
                    some (.inl (((IntKind.i64.wrap (y1.1.1 + (1 : Int))), ()), ()))
                else
                  none
              else
                none
            else
              none
          else
            none
        else
          some (.inr (.inr ((), ())))) (((1 : Int), ()), ())) fun r => match r with
    | .inl z => some z
    | .inr z4 =>
      some x0
variable {d eq ne}
/-- what the second loop is at, at place m -/
structure CInv (eq : α → α → Bool) (xs : List α) (m : Nat) (i : Nat) (row : List α) : Prop where
  len : row.length = xs.length
  low : i < m
  head : row.take i = dedup eq (xs.take m)
  tail : row.drop (m - 1) = xs.drop (m - 1)
theorem CInv.step {eq : α → α → Bool} {xs row : List α} {m i : Nat} (h : CInv eq xs m i row) (hm : 1 ≤ m) {x p : α} (hx : xs[m]? = some x) (hp : xs[m - 1]? = some p) :
    (eq x p = true → CInv eq xs (m + 1) i row) ∧ (eq x p = false → CInv eq xs (m + 1) (i + 1) (row.set i x)) := by
  have hml := (List.getElem?_eq_some_iff.1 hx).1
  have hd := dedup_take eq hm hx hp
  have htail : row.drop m = xs.drop m := by
    have := congrArg (List.drop 1) h.tail
    rw [List.drop_drop, List.drop_drop, show m - 1 + 1 = m from by omega] at this
    exact this
  refine ⟨fun he => ?_, fun he => ?_⟩
  · rw [he] at hd
    simp only [cond_true, List.append_nil] at hd
    exact ⟨h.len, by have := h.low; omega, by rw [hd]; exact h.head, by rw [Nat.add_sub_cancel]; exact htail⟩
  · rw [he] at hd
    simp only [cond_false] at hd
    have hil : i < row.length := by rw [h.len]; have := h.low; omega
    refine ⟨by rw [List.length_set]; exact h.len, by have := h.low; omega, ?_, ?_⟩
    · rw [hd, ← h.head, List.take_set, List.take_add_one, List.getElem?_eq_getElem hil, Option.toList_some]
      rw [List.set_append_right _ _ (by rw [List.length_take]; omega)]
      rw [List.length_take, Nat.min_eq_left (by omega), Nat.sub_self]
      rfl
    · rw [Nat.add_sub_cancel, List.drop_set_of_lt h.low]
      exact htail
theorem CInv.at {eq : α → α → Bool} {xs row : List α} {m i : Nat} (h : CInv eq xs m i row) {q : Nat} (hq : m - 1 ≤ q) : row[q]? = xs[q]? := by
  have h1 := congrArg (fun l => l[q - (m - 1)]?) h.tail
  simp only [List.getElem?_drop] at h1
  rwa [show m - 1 + (q - (m - 1)) = q from by omega] at h1
theorem compactF_ok (hne : ∀ a b, ne a b = !eq a b) (xs : List α) (hl : xs.length ≤ 9223372036854775807) : compactF d eq ne (xs.length + 1) xs = some (dedup eq xs) := by
  unfold compactF
  by_cases h2 : xs.length < 2
  · have e : decide (((xs.length : Nat) : Int) < 2) = true := by simp; omega
    rw [e]
    match xs, h2 with
    | [], _ => rfl
    | [x], _ => rfl
    | _ :: _ :: _, h => simp at h; omega
  · have e : decide (((xs.length : Nat) : Int) < 2) = false := by simp; omega
    rw [e]
    simp only [cond_false]
    have hpre : ∀ m : Nat, 1 ≤ m → m < xs.length → IntKind.i64.wrap ((m : Int) - 1) = ((m - 1 : Nat) : Int) := fun m h1 h2 => by rw [wrap_ok (by omega) (by omega)]; omega
    have hat : ∀ (m : Nat) (h : m < xs.length), xs[m]? = some xs[m] := fun m h => List.getElem?_eq_getElem h
    rcases first_dup eq xs xs.length (by omega) (Nat.le_refl _) with hno | ⟨k0, hk1, hk2, ⟨x, p, hx, hp, he⟩, hbe⟩
    · rw [iter_path (s0 := (((1 : Int), ()), ())) (fun m => ((((m + 1 : Nat) : Int), ()), ())) (.inr ((), ())) (xs.length - 1) ?a1 ?a2 ?a3 ?a4]
      · have := dedup_none eq xs.length (Nat.le_refl _) hno
        rw [List.take_length] at this
        rw [this]; rfl
      case a1 => rfl
      case a2 => omega
      case a3 =>
        intro j hj
        have hx := hat (j + 1) (by omega)
        have hp := hat j (by omega)
        have e1 := hpre (j + 1) (by omega) (by omega)
        simp only [Nat.add_sub_cancel] at e1
        simp only [lt_at hx, inR_at hx, rd_at hx, e1, inR_at hp, rd_at hp, wrap_succ hx hl, cond_true, hno (j + 1) (by omega) (by omega) _ _ hx hp, cond_false]
      case a4 =>
        rw [show xs.length - 1 + 1 = xs.length from by omega]
        simp
    · -- the second loop
      have hc0 : CInv eq xs (k0 + 1) k0 xs := by
        refine ⟨rfl, by omega, ?_, rfl⟩
        rw [dedup_take eq hk1 hx hp, he, dedup_none eq k0 (by omega) hbe]
        simp
      have hloop : ∃ st : Nat → Nat × List α, st 0 = (k0, xs) ∧ (∀ j, k0 + 1 + j ≤ xs.length → CInv eq xs (k0 + 1 + j) (st j).1 (st j).2) ∧ ∀ j, k0 + 1 + j < xs.length → ∀ x p, xs[k0 + 1 + j]? = some x → xs[k0 + j]? = some p → st (j + 1) = bif eq x p then st j else ((st j).1 + 1, (st j).2.set (st j).1 x) := by
        let st : Nat → Nat × List α := fun n => Nat.rec (k0, xs) (fun j b => match xs[k0 + 1 + j]?, xs[k0 + j]? with | some x, some p => bif eq x p then b else (b.1 + 1, b.2.set b.1 x) | _, _ => b) n
        have hst : ∀ j, k0 + 1 + j < xs.length → ∀ x p, xs[k0 + 1 + j]? = some x → xs[k0 + j]? = some p → st (j + 1) = bif eq x p then st j else ((st j).1 + 1, (st j).2.set (st j).1 x) := fun j hj x p hx hp => by
          show (match xs[k0 + 1 + j]?, xs[k0 + j]? with | some x, some p => bif eq x p then st j else ((st j).1 + 1, (st j).2.set (st j).1 x) | _, _ => st j) = _
          rw [hx, hp]
        refine ⟨st, rfl, fun j => ?_, hst⟩
        induction j with
        | zero => intro _; exact hc0
        | succ j ih =>
          intro hj
          have hx := hat (k0 + 1 + j) (by omega)
          have hp := hat (k0 + j) (by omega)
          have h1 := (ih (by omega)).step (by omega) hx (by rw [show k0 + 1 + j - 1 = k0 + j from by omega]; exact hp)
          rw [hst j (by omega) _ _ hx hp]
          cases he : eq xs[k0 + 1 + j] xs[k0 + j]
          · exact h1.2 he
          · exact h1.1 he
      obtain ⟨st, hst0, hinv, hst⟩ := hloop
      have hI := hinv (xs.length - (k0 + 1)) (by omega)
      rw [show k0 + 1 + (xs.length - (k0 + 1)) = xs.length from by omega, ] at hI
      generalize hz : st (xs.length - (k0 + 1)) = z at hI
      obtain ⟨i, row⟩ := z
      simp only at hI
      have hres : List.take i row = dedup eq xs := by rw [hI.head, List.take_length]
      rw [iter_path (s0 := (((1 : Int), ()), ())) (fun m => ((((m + 1 : Nat) : Int), ()), ())) (.inl (dedup eq xs)) (k0 - 1) ?a1 ?a2 ?a3 ?a4]
      · rfl
      case a1 => rfl
      case a2 => omega
      case a3 =>
        intro j hj
        have hx := hat (j + 1) (by omega)
        have hp := hat j (by omega)
        have e1 := hpre (j + 1) (by omega) (by omega)
        simp only [Nat.add_sub_cancel] at e1
        simp only [lt_at hx, inR_at hx, rd_at hx, e1, inR_at hp, rd_at hp, wrap_succ hx hl, cond_true, hbe (j + 1) (by omega) (by omega) _ _ hx hp, cond_false]
      case a4 =>
        rw [show k0 - 1 + 1 = k0 from by omega]
        have e3 : (decide ((0 : Int) ≤ (k0 : Int)) && (decide ((k0 : Int) ≤ ((xs.length : Nat) : Int)) && decide (((xs.length : Nat) : Int) ≤ ((xs.length : Nat) : Int)))) = true := by simp; omega
        simp only [lt_at hx, inR_at hx, rd_at hx, hpre k0 hk1 hk2, inR_at hp, rd_at hp, cond_true, he, e3]
        rw [iter_path (s0 := (((k0 : Int), (1 : Int), ()), (xs, ()))) (fun j => ((((st j).1 : Int), ((j + 1 : Nat) : Int), ()), ((st j).2, ()))) (.inr (((i : Int), ()), (row, ()))) (xs.length - (k0 + 1)) ?b1 ?b2 ?b3 ?b4]
        case b1 => simp [hst0]
        case b2 => omega
        case b3 =>
          intro j hj
          have hc := hinv j (by omega)
          have hx := hat (k0 + 1 + j) (by omega)
          have hp := hat (k0 + j) (by omega)
          have hs := hst j (by omega) _ _ hx hp
          have hrx : (st j).2[k0 + 1 + j]? = some xs[k0 + 1 + j] := by rw [hc.at (by omega)]; exact hx
          have hrp : (st j).2[k0 + j]? = some xs[k0 + j] := by rw [hc.at (by omega)]; exact hp
          have c1 : decide ((((j + 1 : Nat) : Int)) < ((xs.length : Nat) : Int) - (k0 : Int)) = true := by simp; omega
          have c2 : inR (((j + 1 : Nat) : Int)) (((xs.length : Nat) : Int) - (k0 : Int)) = true := by simp [inR]; omega
          have c3 : (k0 : Int) + ((j + 1 : Nat) : Int) = ((k0 + 1 + j : Nat) : Int) := by omega
          have c4 : IntKind.i64.wrap (((j + 1 : Nat) : Int) - 1) = ((j : Nat) : Int) := by rw [wrap_ok (by omega) (by omega)]; omega
          have c5 : inR ((j : Nat) : Int) (((xs.length : Nat) : Int) - (k0 : Int)) = true := by simp [inR]; omega
          have c6 : (k0 : Int) + ((j : Nat) : Int) = ((k0 + j : Nat) : Int) := by omega
          have c7 : IntKind.i64.wrap (((j + 1 : Nat) : Int) + 1) = ((j + 1 + 1 : Nat) : Int) := by rw [wrap_ok (by omega) (by omega)]; omega
          have hlow := hc.low
          have hlen := hc.len
          simp only [c1, c2, c3, c4, c5, c6, c7, inR_at hrx, inR_at hrp, rd_at hrx, rd_at hrp, cond_true, hne]
          rw [hs]
          cases hq : eq xs[k0 + 1 + j] xs[k0 + j]
          · have c8 : inR (((st j).1 : Nat) : Int) (((st j).2.length : Nat) : Int) = true := by simp [inR]; omega
            have c9 : IntKind.i64.wrap ((((st j).1 : Nat) : Int) + 1) = (((st j).1 + 1 : Nat) : Int) := by rw [wrap_ok (by omega) (by omega)]; omega
            simp [c8, c9]
          · simp
        case b4 =>
          rw [hz]
          have c1 : decide ((((xs.length - (k0 + 1) + 1 : Nat) : Int)) < ((xs.length : Nat) : Int) - (k0 : Int)) = false := by simp; omega
          simp only [c1, cond_false]
        have hil : i ≤ row.length := by have := hI.low; rw [hI.len]; omega
        have e4 : (decide ((0 : Int) ≤ (i : Int)) && (decide ((i : Int) ≤ ((row.length : Nat) : Int)) && decide (((row.length : Nat) : Int) ≤ ((row.length : Nat) : Int)))) = true := by simp; omega
        simp only [Option.bind_some, e4, cond_true, Int.toNat_natCast]
        have e5 : (decide (0 ≤ (0 : Int)) && (decide ((0 : Int) ≤ (i : Int)) && decide ((i : Int) ≤ ((List.length (List.take i row ++ (List.replicate (Int.toNat (((row.length : Nat) : Int) - (i : Int))) d ++ List.drop row.length row)) : Nat) : Int)))) = true := by
          simp only [List.length_append, List.length_take, List.length_replicate]
          simp; omega
        rw [e5]
        simp only [cond_true, Int.toNat_zero, List.drop_zero]
        rw [List.take_append_of_le_length (by rw [List.length_take]; omega), List.take_take, Nat.min_self, hres]
/-! ### what slices.DeleteFunc does -/
end
end Go.Vm
