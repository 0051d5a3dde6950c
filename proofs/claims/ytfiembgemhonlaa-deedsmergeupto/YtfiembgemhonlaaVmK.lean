/- Vm, part 33: functions that write a row, that use one up and make another, or that make one. Own work. -/
import Derived.Test.YtfiembgemhonlaaVmD
import Derived.Sort.Grow
set_option linter.unusedVariables false
set_option linter.unusedSimpArgs false
namespace Go.Vm
open Go.RowKit
/-- a function from data to a row -/
def FSem.mfn (T : Ty) (As : Tys) (f : As.den → Option (List T.den)) : FSem where
  modes := modesOf As
  quiet := true
  run := fun args objs K => match objs with
    | [] => match implodes As args with
      | some x => (f x).bind fun ys => K (.row 0) [.row T ys]
      | none => none
    | _ :: _ => none
  param := fun args objs K => by
    cases objs with
    | nil =>
      simp only
      cases implodes As args with
      | none => rfl
      | some x => simp only; cases f x <;> rfl
    | cons b l => rfl
/-- what a function gives back, if it is a row -/
def rowRes (T : Ty) (v : PV) (l : List OB) : Option (List T.den) :=
  match v with
  | .row o => asRow? l T o
  | .sub o lo hi => (asRow? l T o).bind fun xs => some ((xs.take hi.toNat).drop lo.toNat)
  | .nil => some []
  | _ => none
section
variable {P : Program} {w w' : World} {A A' : Nat → Prop}
theorem RowAt.len {T : Ty} {xs : List T.den} {v : Value} (h : RowAt w A T xs v) : xs.length ≤ 9223372036854775807 := by
  rcases h.cases with ⟨rfl, _⟩ | ⟨_, b, off, c, _, cs, t, _, h2, h3, _⟩
  · simp
  · omega
/-- the row that a function has been handed -/
theorem row_arg {T : Ty} {xs : List T.den} {μ : Nat → Value} (hO : Objs w A (obs [.row T xs]) μ) {x : Value} (hv : VR w A (obs [.row T xs]) μ (.row 0) x) :
    RowAt w A T xs x ∧ HeadR (μ 0) x ∧ ((¬ ∃ a, x = .slice a 0 0) → μ 0 = x) := by
  have hob : obs [.row T xs] 0 = .row T xs := rfl
  have hm := hv.row hob
  exact ⟨((hO.each 0).rowAt hob).head hm, hm, fun h => hm.elim id (fun ⟨_, e⟩ => absurd e h)⟩
theorem one_own {b : OB} {μ : Nat → Value} {x : Nat} (h : own (obs [b]) μ x) : blkOf (μ 0) = some x := by
  obtain ⟨i, h1, h2⟩ := h
  cases i with
  | zero => exact h2
  | succ i => simp [obs, OB.alive] at h1
/-- what is right of a row that is written -/
theorem wfn_post {T : Ty} {xs ys : List T.den} {μ : Nat → Value} (hO : Objs w A (obs [.row T xs]) μ) {x : Value} (hv : VR w A (obs [.row T xs]) μ (.row 0) x) {M : Nat → Prop} (hk : Keep M w w') (hM : ∀ b, M b → (¬ ∃ a, x = .slice a 0 0) ∧ blkOf x = some b)
    (hr : RowAt w' A T ys x) : CallPost w w' A [.row T xs] μ [.row T ys] μ (.tup []) (.tuple #[]) := by
  obtain ⟨h1, h2, h3⟩ := row_arg hO hv
  have hob : obs [.row T ys] 0 = .row T ys := rfl
  have hown : ∀ b, own (obs [.row T ys]) μ b → own (obs [.row T xs]) μ b := fun b hb => ⟨0, rfl, one_own hb⟩
  have hsub : ∀ b, (A b ∨ own (obs [.row T ys]) μ b) → A b := fun b hb => hb.elim id (fun h => hO.mine b (hown b h))
  refine ⟨Nat.le_refl _, hk.mono (fun b _ hb => ?_), ⟨fun o => ?_, fun o o' b h1 h2 h3 h4 => ?_, fun b hb => .inr hb, fun b hb => Nat.lt_of_lt_of_le (hO.old b (hsub b hb)) hk.size⟩, ?_, fun b hb => .inl (hown b hb), fun i hi => ?_⟩
  · obtain ⟨g1, g2⟩ := hM b hb
    exact ⟨0, rfl, by rw [h3 g1]; exact g2⟩
  · cases o with
    | zero =>
      rcases hr.cases with ⟨rfl, hz⟩ | ⟨hz, b, off, c, e, hreal⟩
      · rcases h2 with h2 | h2
        · have h4 := hO.each 0
          unfold OR at h4 ⊢
          simp only [obs, List.getD_cons_zero] at h4 ⊢
          obtain ⟨a, hz⟩ := hz
          rcases hr with ⟨_, _⟩ | ⟨b, off, c, cs, t, e, g⟩
          · rcases h4 with ⟨_, h4⟩ | ⟨b, off, c, cs, t, e, g1, g2, g3, g4, g5⟩
            · exact .inl ⟨rfl, h4⟩
            · have hb : b < w.heap.size := hO.old b (hO.mine b ⟨0, rfl, by rw [e]; rfl⟩)
              have hMb : ¬ M b := fun h => (hM b h).1 ⟨a, hz⟩
              rw [h2, hz] at e
              simp only [Value.slice.injEq] at e
              obtain ⟨e1, e2, rfl⟩ := e
              exact .inr ⟨b, off, 0, cs, t, by rw [h2, hz, e1]; rfl, by rw [hk.block b hb hMb]; exact g1, by simp, by omega, by omega, fun i x hi => by simp [nth] at hi⟩
          · exact .inr ⟨b, off, c, cs, t, by rw [h2]; exact e, g.1, g.2.1, g.2.2.1, g.2.2.2.1, fun i x hi => by simp [nth] at hi⟩
        · unfold OR
          simp only [obs, List.getD_cons_zero]
          exact .inl ⟨rfl, h2.1⟩
      · exact (hreal.mono hsub).or hob (by rw [h3 hz]; exact e)
    | succ o => unfold OR; simp [obs]
  · cases o with
    | zero =>
      cases o' with
      | zero => rfl
      | succ o' => simp [obs, OB.alive] at h2
    | succ o => simp [obs, OB.alive] at h1
  · refine .of_one ?_ rfl rfl
    simp only [CR, TRs]
    exact ⟨_, rfl, rfl⟩
  · have hi0 : i = 0 := by simpa using hi
    subst hi0
    unfold Later
    simp only [obs, List.getD_cons_zero]
    exact ⟨⟨xs, rfl⟩, trivial⟩
theorem asRow_some {l : List OB} {T : Ty} {o : Nat} {xs : List T.den} (h : asRow? l T o = some xs) : obs l o = .row T xs := by
  unfold asRow? at h
  split at h
  · rename_i U ys hob
    obtain ⟨e, h2⟩ := castL_some h
    subst e; subst h2
    exact hob
  · cases h
theorem rowRes_own {T : Ty} {ys : List T.den} {objs : List OB} {μ : Nat → Value} {res : PV} {v : Value} (hO : ∀ o, OR w A (obs objs) μ o) (hv : VR w A (obs objs) μ res v) (h : rowRes T res objs = some ys) :
    ∃ hd, HeadR hd v ∧ v.oneCell' = true ∧ (ys = [] ∧ hd = .slice none 0 0 ∨ ∃ b off c, hd = .slice (some ⟨b, off, none⟩) ys.length c ∧ RealRow w A T ys b off c) ∧ ∀ b, blkOf hd = some b → own (obs objs) μ b := by
  unfold rowRes at h
  split at h
  · rename_i o
    have hob := asRow_some h
    have hm := hv.row hob
    have hra := (hO o).rowAt hob
    have hblk : blkOf v = blkOf (μ o) ∨ ∃ a, v = .slice a 0 0 := hm.elim (fun e => .inl (by rw [e])) (fun e => .inr e.2)
    obtain ⟨hd, g1, g2, g3, g4⟩ := rowAt_own (hra.head hm) hblk
    exact ⟨hd, g1, g2, g3, fun b hb => ⟨o, by rw [hob]; rfl, g4 b hb⟩⟩
  · rename_i o lo hi
    obtain ⟨xs, h1, h2⟩ := Option.bind_eq_some_iff.1 h
    cases h2
    have hob := asRow_some h1
    obtain ⟨hra, _, hbk, _⟩ := ((hO o).rowAt hob).sub (hv.subv hob)
    obtain ⟨hd, g1, g2, g3, g4⟩ := rowAt_own hra hbk
    exact ⟨hd, g1, g2, g3, fun b hb => ⟨o, by rw [hob]; rfl, g4 b hb⟩⟩
  · cases h
    have e := hv.nil
    subst e
    exact ⟨_, .inl rfl, rfl, .inl ⟨rfl, rfl⟩, fun b hb => by cases hb⟩
  · cases h
theorem obs_last (n : Nat) (b : OB) (i : Nat) : obs (List.replicate n .dead ++ [b]) i = if i = n then b else .dead := by
  unfold obs
  simp only [List.getD, List.getElem?_append, List.length_replicate, List.getElem?_replicate]
  by_cases h : i < n
  · rw [if_pos h, if_pos h, if_neg (by omega)]; rfl
  · rw [if_neg h]
    by_cases e : i = n
    · subst e; simp
    · rw [if_neg e]
      have : i - n ≠ 0 := by omega
      cases hq : i - n with
      | zero => omega
      | succ m => simp
/-- what is right of a function that gives back a row and no other object -/
theorem row_post {T : Ty} {ys : List T.den} {objs objs' : List OB} {μ μ' : Nat → Value} {res : PV} {v : Value} (hp : CallPost w w' A objs μ objs' μ' res v) (h : rowRes T res objs' = some ys) :
    ∃ μ2, CallPost w w' A objs μ (List.replicate objs.length .dead ++ [.row T ys]) μ2 (.row objs.length) v := by
  obtain ⟨hd, g1, g2, g3, g4⟩ := rowRes_own hp.lie.each hp.res h
  refine ⟨fun i => if i = objs.length then hd else μ' i, ?_⟩
  have hown : ∀ b, own (obs (List.replicate objs.length .dead ++ [.row T ys])) (fun i => if i = objs.length then hd else μ' i) b → blkOf hd = some b := by
    rintro b ⟨i, k1, k2⟩
    rw [obs_last] at k1
    by_cases e : i = objs.length
    · simp only [e, if_true] at k2; exact k2
    · rw [if_neg e] at k1; cases k1
  have hown' : ∀ b, own (obs (List.replicate objs.length .dead ++ [.row T ys])) (fun i => if i = objs.length then hd else μ' i) b → own (obs objs') μ' b := fun b hb => g4 b (hown b hb)
  have hsub : ∀ b, (A b ∨ own (obs (List.replicate objs.length .dead ++ [.row T ys])) (fun i => if i = objs.length then hd else μ' i) b) → (A b ∨ own (obs objs') μ' b) := fun b hb => hb.imp id (hown' b)
  refine ⟨by simp, hp.keep, ⟨fun o => ?_, fun o o' b h1 h2 h3 h4 => ?_, fun b hb => .inr hb, fun b hb => hp.lie.old b (hsub b hb)⟩, ?_, fun b hb => hp.mine b (hown' b hb), fun i hi => ?_⟩
  · by_cases e : o = objs.length
    · subst e
      have hob : obs (List.replicate objs.length .dead ++ [.row T ys]) objs.length = .row T ys := by rw [obs_last, if_pos rfl]
      rcases g3 with ⟨rfl, rfl⟩ | ⟨b, off, c, e, hreal⟩
      · unfold OR
        rw [hob]
        exact .inl ⟨rfl, by simp⟩
      · exact (hreal.mono hsub).or hob (by simp [e])
    · unfold OR
      rw [obs_last, if_neg e]; trivial
  · rw [obs_last] at h1 h2
    by_cases e : o = objs.length
    · by_cases e' : o' = objs.length
      · rw [e, e']
      · rw [if_neg e'] at h2; cases h2
    · rw [if_neg e] at h1; cases h1
  · refine .of_one ?_ ?_ rfl
    · simp only [CR]
      exact ⟨v, rfl, g2, by rw [obs_last, if_pos rfl]; simpa using g1⟩
    · cases v <;> first | rfl | cases g2
  · unfold Later
    rw [obs_last, if_neg (by omega)]; trivial
variable {E : Nat → Env}
theorem mfn_of_calls {f : FuncId} {T : Ty} {As : Tys} {F : As.den → Option (List T.den)} (hen : Enters P f)
    (hg : ∀ (x : As.den) (ys : List T.den), WFs As x → F x = some ys → ∀ (w : World) (A : Nat → Prop) (μ : Nat → Value) (vals : List Value), Objs w A (obs []) μ → TRs w A (obs []) μ (explodes As x) vals →
      Calls P f vals.toArray w fun e w' => ∃ v res objs' μ', e = .returned v ∧ rowRes T res objs' = some ys ∧ CallPost w w' A [] μ objs' μ' res v) : SoundF P f (FSem.mfn T As F) := by
  intro ρ args objs K r hr
  cases objs with
  | cons b l => simp only [FSem.mfn, reduceCtorEq] at hr
  | nil =>
    simp only [FSem.mfn] at hr
    split at hr
    · rename_i x hx
      obtain ⟨ys, hy, hK⟩ := Option.bind_eq_some_iff.1 hr
      refine ⟨hen, fun w A μ vals hO hargs => ?_⟩
      refine (hg x ys (implodes_wf As args x vals hx hargs) hy w A μ vals hO (implodes_TRs As args x vals hx hargs)).mono ?_
      rintro e w' ⟨v, res, objs', μ', rfl, h1, h2⟩
      obtain ⟨μ2, h3⟩ := row_post h2 h1
      exact ⟨v, _, _, μ2, rfl, hK, h3⟩
    · cases hr
/-- A FUNCTION FROM DATA TO A ROW. -/
theorem mfn_sound (hE : ∀ k, EnvOK P (E k)) (hm : P.follows .mixedOrders = true) {H : Hints} {f : FuncId} {fn : Func} {code : Code} {nt : Nat} {rs : List ResultVar} (hf : P.funcs[f]? = some fn) (hname : (fn.name == "runtime.NumGoroutine") = false) (hb : fn.body = some code) (hnt : fn.ntmps = nt) (hrs : fn.results.toList = rs) {T : Ty} {As : Tys} {F : As.den → Option (List T.den)}
    (hg : ∀ (x : As.den) (ys : List T.den), WFs As x → F x = some ys → ∃ k, evFun (E k) H k code nt rs (explodes As x) [] (rowRes T) = some ys) : SoundF P f (FSem.mfn T As F) :=
  mfn_of_calls (enters_of hf hname hb) fun x ys hw hy w A μ vals hO hargs => by
    obtain ⟨k, hk⟩ := hg x ys hw hy
    rw [evFun_param] at hk
    split at hk
    · rename_i p hp
      have hs : SoundF P f (FSem.ev (E k) H k code nt rs) := fun_sound (hE k) hm (H := H) hf hname hb hnt hrs (fun args objs K r h => ⟨k, h⟩)
      obtain ⟨_, hcalls⟩ := hs _ [] (fun v l => some (v, l)) p hp
      refine (hcalls w A μ _ hO hargs).mono ?_
      rintro e w' ⟨v, res, objs', μ', rfl, hpe, hpost⟩
      simp only [Option.some.injEq] at hpe
      subst hpe
      exact ⟨v, _, _, μ', rfl, hk, hpost⟩
    · cases hk
/-- two halves of a function -/
theorem mfn_or {f : FuncId} {T : Ty} {As : Tys} {g g1 g2 : As.den → Option (List T.den)} (h1 : SoundF P f (FSem.mfn T As g1)) (h2 : SoundF P f (FSem.mfn T As g2)) (h : ∀ x y, g x = some y → g1 x = some y ∨ g2 x = some y) : SoundF P f (FSem.mfn T As g) := by
  intro ρ args objs K r hr
  cases objs with
  | cons b l => simp only [FSem.mfn, reduceCtorEq] at hr
  | nil =>
    simp only [FSem.mfn] at hr
    split at hr
    · rename_i x hx
      obtain ⟨y, hy, hK⟩ := Option.bind_eq_some_iff.1 hr
      rcases h x y hy with h | h
      · exact h1 args [] K r (by simp only [FSem.mfn, hx, h, Option.bind_some]; exact hK)
      · exact h2 args [] K r (by simp only [FSem.mfn, hx, h, Option.bind_some]; exact hK)
    · cases hr
/-- slices.Clone, as a row -/
theorem clone_row {f : FuncId} {T : Ty} {g1 : (Tys.cons (.slice T) .nil).den → Option (List T.den)} (h1 : SoundF P f (FSem.mfn T (.cons (.slice T) .nil) g1)) (hen : Enters P f)
    (hg1 : ∀ xs : List T.den, xs ≠ [] → xs.length ≤ 4294967296 → g1 (xs, ()) = some xs)
    (h0 : ∀ (a : Option Addr) (c : Nat) (w : World), Calls P f #[.slice a 0 c] w fun e w' => ∃ a', e = .returned (.slice a' 0 0) ∧ Keep None w w') :
    SoundF P f (FSem.mfn T (.cons (.slice T) .nil) fun x => if List.length x.1 ≤ 4294967296 then some x.1 else none) := by
  have h2 : SoundF P f (FSem.mfn T (.cons (.slice T) .nil) fun x => match (show List T.den from x.1) with | [] => some ([] : List T.den) | _ :: _ => none) := by
    refine mfn_of_calls hen (fun x y hwf hy w A μ vals hO hv => ?_)
    obtain ⟨xs, ⟨⟩⟩ := x
    cases xs with
    | nil =>
      cases hy
      simp only [explodes, explode, TRs] at hv
      obtain ⟨v, rest, rfl, hv, rfl⟩ := hv
      have hd := VR.sl (ob := obs []) (μ := μ) hv
      simp only [DR] at hd
      obtain ⟨a, c, e, _, _⟩ := hd
      simp only [List.cons.injEq, and_true] at e
      subst e
      refine (h0 a c w).mono ?_
      rintro e w' ⟨a', rfl, hk⟩
      have hob0 : obs [.row T []] 0 = .row T [] := rfl
      have hno : ∀ b, own (obs [.row T []]) (fun _ => .slice none 0 0) b → False := fun b hb => by have := one_own hb; cases this
      refine ⟨_, .row 0, [.row T []], fun _ => .slice none 0 0, rfl, ?_, ⟨by simp, hk.mono (fun _ _ h => h.elim), ⟨fun o => ?_, fun o o' b h1 h2 h3 h4 => (by cases h3), fun b hb => .inr hb, fun b hb => ?_⟩, ?_, fun b hb => (hno b hb).elim, fun i hi => by simp at hi⟩⟩
      · simp [rowRes, asRow?, castL]
      · cases o with
        | zero => unfold OR; rw [hob0]; exact .inl ⟨rfl, rfl⟩
        | succ o => unfold OR; simp [obs]
      · rcases hb with hb | hb
        · exact Nat.lt_of_lt_of_le (hO.old b hb) hk.size
        · exact (hno b hb).elim
      · refine .of_one ?_ rfl rfl
        simp only [CR]
        exact ⟨_, rfl, rfl, by rw [hob0]; exact .inr ⟨rfl, _, rfl⟩⟩
    | cons x xs => cases hy
  have h3 : ∀ (x : (Tys.cons (.slice T) .nil).den) (y : List T.den), (if List.length x.1 ≤ 4294967296 then some x.1 else none) = some y → g1 x = some y ∨ (match (show List T.den from x.1) with | [] => some ([] : List T.den) | _ :: _ => none) = some y := by
    rintro ⟨xs, ⟨⟩⟩ y hy
    split at hy
    · rename_i hl
      cases hy
      cases xs with
      | nil => exact .inr rfl
      | cons z xs => exact .inl (hg1 _ (by simp) hl)
    · cases hy
  intro ρ args objs K r hr
  exact mfn_or h1 h2 h3 args objs K r hr
end
end Go.Vm

/- Vm, part 34: sorts of the library, by the contracts of the kit. Own work. -/
set_option linter.unusedVariables false
set_option linter.unusedSimpArgs false
namespace Go.Vm
open Go.RowKit Go.Sort
section
variable {P : Program} {w : World} {A : Nat → Prop}
theorem put_at {α : Type} [Inhabited α] {enc : α → Value} {b off : Nat} {d : Array α} {n : Nat} {os : Array Obj} {x : Nat} (hx : x < w.heap.size) : (grow (putRow enc (Sort.ahead w n) b off d) os).heap[x]? = if x = b then (w.heap[b]?).map (onCells (putCells enc off d)) else w.heap[x]? := by
  simp only [grow, putRow, mapBlock, Sort.ahead]
  rw [Array.getElem?_append_left (by simpa using hx), Array.getElem?_modify]
  by_cases e : b = x
  · subst e; simp
  · rw [if_neg e, if_neg (fun h => e h.symm)]
theorem keep_put {α : Type} [Inhabited α] {enc : α → Value} {b off : Nat} {d : Array α} {n : Nat} {os : Array Obj} : Keep (· = b) w (grow (putRow enc (Sort.ahead w n) b off d) os) := by
  refine ⟨rfl, rfl, rfl, by simp [grow, putRow, mapBlock, Sort.ahead], by simp [grow, putRow, mapBlock, Sort.ahead], fun a ha => ?_, fun x hx hn => ?_⟩
  · unfold World.frozen?
    rw [put_at ha]
    by_cases e : a.block = b
    · rw [if_pos e, ← e]
      cases w.heap[a.block]? with
      | none => rfl
      | some o => cases o <;> rfl
    · rw [if_neg e]
  · rw [put_at hx, if_neg hn]
theorem real_blk {T : Ty} {xs : List T.den} {b off c : Nat} (h : RealRow w A T xs b off c) : b < w.heap.size := by
  obtain ⟨cs, t, h1, _⟩ := h
  rcases Nat.lt_or_ge b w.heap.size with g | g
  · exact g
  · rw [Array.getElem?_eq_none g] at h1; cases h1
/-- the sort of numbers -/
def sortInt (l : List Int) : List Int := l.mergeSort fun x y => decide (x ≤ y)
end
end Go.Vm

/- Vm, part 35: slices.Compact, for whatever elements. Own work. -/
set_option linter.unusedVariables false
set_option linter.unusedSimpArgs false
namespace Go.Vm
section
variable {σ τ : Type}
end
section
variable {α : Type}
/-- the first of each run of equal elements -/
def dedupFrom (eq : α → α → Bool) (p : α) : List α → List α
  | [] => []
  | x :: l => bif eq x p then dedupFrom eq x l else x :: dedupFrom eq x l
def dedup (eq : α → α → Bool) : List α → List α
  | [] => []
  | x :: l => x :: dedupFrom eq x l
theorem dedupFrom_snoc (eq : α → α → Bool) (x : α) : ∀ (l : List α) (p : α), dedupFrom eq p (l ++ [x]) = dedupFrom eq p l ++ (bif eq x ((p :: l).getLast (by simp)) then [] else [x])
  | [], p => by simp [dedupFrom]
  | y :: l, p => by
    simp only [List.cons_append, dedupFrom, dedupFrom_snoc eq x l y, List.getLast_cons_cons]
    cases eq y p <;> simp
theorem dedup_take (eq : α → α → Bool) {xs : List α} {j : Nat} {x p : α} (hj : 1 ≤ j) (hx : xs[j]? = some x) (hp : xs[j - 1]? = some p) : dedup eq (xs.take (j + 1)) = dedup eq (xs.take j) ++ (bif eq x p then [] else [x]) := by
  have hjl := (List.getElem?_eq_some_iff.1 hx).1
  have e : xs.take (j + 1) = xs.take j ++ [x] := by
    rw [List.take_add_one, hx]; rfl
  rw [e]
  cases hxs : xs.take j with
  | nil =>
    rw [List.take_eq_nil_iff] at hxs
    rcases hxs with h | h
    · omega
    · rw [h] at hjl; simp at hjl
  | cons y l =>
    simp only [dedup, List.cons_append, dedupFrom_snoc]
    have hlast : (y :: l).getLast (by simp) = p := by
      have h1 : (xs.take j).getLast? = some p := by
        rw [List.getLast?_eq_getElem?, List.length_take, Nat.min_eq_left (by omega), List.getElem?_take, if_pos (by omega), hp]
      rw [hxs, List.getLast?_eq_some_getLast (by simp)] at h1
      exact Option.some.inj h1
    rw [hlast]
variable (d : α) (eq ne : α → α → Bool)
variable {d eq ne}
/-- what the second loop is at, at place m -/
structure CInv (eq : α → α → Bool) (xs : List α) (m : Nat) (i : Nat) (row : List α) : Prop where
  len : row.length = xs.length
  low : i < m
  head : row.take i = dedup eq (xs.take m)
  tail : row.drop (m - 1) = xs.drop (m - 1)
theorem CInv.step {eq : α → α → Bool} {xs row : List α} {m i : Nat} (h : CInv eq xs m i row) (hm : 1 ≤ m) {x p : α} (hx : xs[m]? = some x) (hp : xs[m - 1]? = some p) :
    (eq x p = true → CInv eq xs (m + 1) i row) ∧ (eq x p = false → CInv eq xs (m + 1) (i + 1) (row.set i x)) := by
  have hml := (List.getElem?_eq_some_iff.1 hx).1
  have hd := dedup_take eq hm hx hp
  have htail : row.drop m = xs.drop m := by
    have := congrArg (List.drop 1) h.tail
    rw [List.drop_drop, List.drop_drop, show m - 1 + 1 = m from by omega] at this
    exact this
  refine ⟨fun he => ?_, fun he => ?_⟩
  · rw [he] at hd
    simp only [cond_true, List.append_nil] at hd
    exact ⟨h.len, by have := h.low; omega, by rw [hd]; exact h.head, by rw [Nat.add_sub_cancel]; exact htail⟩
  · rw [he] at hd
    simp only [cond_false] at hd
    have hil : i < row.length := by rw [h.len]; have := h.low; omega
    refine ⟨by rw [List.length_set]; exact h.len, by have := h.low; omega, ?_, ?_⟩
    · rw [hd, ← h.head, List.take_set, List.take_add_one, List.getElem?_eq_getElem hil, Option.toList_some]
      rw [List.set_append_right _ _ (by rw [List.length_take]; omega)]
      rw [List.length_take, Nat.min_eq_left (by omega), Nat.sub_self]
      rfl
    · rw [Nat.add_sub_cancel, List.drop_set_of_lt h.low]
      exact htail
theorem CInv.at {eq : α → α → Bool} {xs row : List α} {m i : Nat} (h : CInv eq xs m i row) {q : Nat} (hq : m - 1 ≤ q) : row[q]? = xs[q]? := by
  have h1 := congrArg (fun l => l[q - (m - 1)]?) h.tail
  simp only [List.getElem?_drop] at h1
  rwa [show m - 1 + (q - (m - 1)) = q from by omega] at h1
/-! ### what slices.DeleteFunc does -/
structure FInv (keep : α → Bool) (xs : List α) (m : Nat) (i : Nat) (row : List α) : Prop where
  len : row.length = xs.length
  low : i < m
  head : row.take i = (xs.take m).filter keep
  tail : row.drop m = xs.drop m
theorem FInv.step {keep : α → Bool} {xs row : List α} {m i : Nat} (h : FInv keep xs m i row) {x : α} (hx : xs[m]? = some x) :
    (keep x = false → FInv keep xs (m + 1) i row) ∧ (keep x = true → FInv keep xs (m + 1) (i + 1) (row.set i x)) := by
  have hml := (List.getElem?_eq_some_iff.1 hx).1
  have hlow := h.low
  have e : xs.take (m + 1) = xs.take m ++ [x] := by rw [List.take_add_one, hx]; rfl
  have htail : row.drop (m + 1) = xs.drop (m + 1) := by
    have := congrArg (List.drop 1) h.tail
    rwa [List.drop_drop, List.drop_drop] at this
  refine ⟨fun hk => ⟨h.len, by omega, by rw [e, List.filter_append, h.head]; simp [hk], htail⟩, fun hk => ?_⟩
  have hil : i < row.length := by rw [h.len]; omega
  refine ⟨by rw [List.length_set]; exact h.len, by omega, ?_, by rw [List.drop_set_of_lt (by omega)]; exact htail⟩
  rw [e, List.filter_append, ← h.head, List.take_set, List.take_add_one, List.getElem?_eq_getElem hil, Option.toList_some]
  rw [List.set_append_right _ _ (by rw [List.length_take]; omega)]
  rw [List.length_take, Nat.min_eq_left (by omega), Nat.sub_self]
  simp [hk]
theorem FInv.at {keep : α → Bool} {xs row : List α} {m i : Nat} (h : FInv keep xs m i row) {q : Nat} (hq : m ≤ q) : row[q]? = xs[q]? := by
  have h1 := congrArg (fun l => l[q - m]?) h.tail
  simp only [List.getElem?_drop] at h1
  rwa [show m + (q - m) = q from by omega] at h1
end
end Go.Vm
