/- Go's stable sort at the types of these functions, as an own tool prints it. -/
import Derived.Test.YtfiembgemhonlaaVmS
import Derived.Test.YtfiembgemhonlaaBFn
import Derived.Test.YtfiembgemhonlaaProg
set_option maxRecDepth 100000
set_option linter.unusedVariables false
namespace Go.Vm
open Go.Proofs
abbrev T266 : Ty := (.struct (.cons (.int .i64) (.cons (.int .i64) (.cons (.int .i64) .nil))))
def tsS266 : List (Nat × TD) := [(3, .data (.int .i64)), (264, .data (.slice (.struct (.cons (.int .i64) (.cons (.int .i64) (.cons (.int .i64) .nil)))))), (267, .data (.struct (.cons (.int .i64) (.cons (.int .i64) (.cons (.int .i64) .nil))))), (12, .data (.int .u64)), (277, .data (.int .u64)), (319, .data (.int .u64)), (369, .data (.int .u64)), (4, .data .bool)]
theorem tyS266 : chkTypes Try.prog tsS266 = true := by kernel_rfl
noncomputable def bodyS361 : Code := match Try.f361.body with | some c => c | none => .skip
def fsS361  (k : Nat) : List (Nat × FSem) := []
theorem evS361  (k : Nat) (xs : List T266.den) (a : ((.cons (.int .i64) (.cons (.int .i64) (.cons (.int .i64) .nil))) : Tys).den) : evFun (mkEnvF tsS266 (fsS361  k) []) (H_swapRange T266) k bodyS361 38 [] (.row 0 :: (explodes (.cons (.int .i64) (.cons (.int .i64) (.cons (.int .i64) .nil))) a ++ [.func 267 []])) [.row T266 xs] (decR T266) = swapRange T266.dflt k xs a.1 a.2.1 a.2.2.1 := by kernel_rfl
noncomputable def bodyS358 : Code := match Try.f358.body with | some c => c | none => .skip
def fsS358  (k : Nat) : List (Nat × FSem) := [(361, FSem.rfn T266 (.cons (.int .i64) (.cons (.int .i64) (.cons (.int .i64) .nil))) 267 fun xs a => swapRange T266.dflt k xs a.1 a.2.1 a.2.2.1)]
theorem evS358  (k : Nat) (xs : List T266.den) (a : ((.cons (.int .i64) (.cons (.int .i64) (.cons (.int .i64) .nil))) : Tys).den) : evFun (mkEnvF tsS266 (fsS358  k) []) (H_rotate T266) k bodyS358 58 [] (.row 0 :: (explodes (.cons (.int .i64) (.cons (.int .i64) (.cons (.int .i64) .nil))) a ++ [.func 267 []])) [.row T266 xs] (decR T266) = rotate T266.dflt k xs a.1 a.2.1 a.2.2.1 := by kernel_rfl
noncomputable def bodyS346 : Code := match Try.f346.body with | some c => c | none => .skip
def fsS346 (cmp : T266.den → T266.den → Int) (k : Nat) : List (Nat × FSem) := [(267, FSem.fn (.cons T266 (.cons T266 .nil)) (.cons (.int .i64) .nil) fun x => (cmp x.1 x.2.1, ()))]
theorem evS346 (cmp : T266.den → T266.den → Int) (k : Nat) (xs : List T266.den) (a : ((.cons (.int .i64) (.cons (.int .i64) .nil)) : Tys).den) : evFun (mkEnvF tsS266 (fsS346 cmp k) [(22, 267)]) (H_insSort T266) k bodyS346 53 [] (.row 0 :: (explodes (.cons (.int .i64) (.cons (.int .i64) .nil)) a ++ [.func 267 []])) [.row T266 xs] (decR T266) = insSort T266.dflt cmp k xs a.1 a.2.1 := by kernel_rfl
noncomputable def bodyS347 : Code := match Try.f347.body with | some c => c | none => .skip
def fsS347 (cmp : T266.den → T266.den → Int) (rec : List T266.den → Int → Int → Int → Option (List T266.den)) (k : Nat) : List (Nat × FSem) := [(267, FSem.fn (.cons T266 (.cons T266 .nil)) (.cons (.int .i64) .nil) fun x => (cmp x.1 x.2.1, ())), (358, FSem.rfn T266 (.cons (.int .i64) (.cons (.int .i64) (.cons (.int .i64) .nil))) 267 fun xs a => rotate T266.dflt k xs a.1 a.2.1 a.2.2.1), (347, FSem.rfn T266 (.cons (.int .i64) (.cons (.int .i64) (.cons (.int .i64) .nil))) 267 fun xs a => rec xs a.1 a.2.1 a.2.2.1)]
theorem evS347 (cmp : T266.den → T266.den → Int) (rec : List T266.den → Int → Int → Int → Option (List T266.den)) (k : Nat) (xs : List T266.den) (a : ((.cons (.int .i64) (.cons (.int .i64) (.cons (.int .i64) .nil))) : Tys).den) : evFun (mkEnvF tsS266 (fsS347 cmp rec k) [(40, 267), (92, 267), (158, 267)]) (H_symMerge T266) k bodyS347 220 [] (.row 0 :: (explodes (.cons (.int .i64) (.cons (.int .i64) (.cons (.int .i64) .nil))) a ++ [.func 267 []])) [.row T266 xs] (decR T266) = symMergeF T266.dflt cmp rec k xs a.1 a.2.1 a.2.2.1 := by kernel_rfl
noncomputable def bodyS316 : Code := match Try.f316.body with | some c => c | none => .skip
def fsS316 (cmp : T266.den → T266.den → Int) (k : Nat) : List (Nat × FSem) := [(346, FSem.rfn T266 (.cons (.int .i64) (.cons (.int .i64) .nil)) 267 fun xs a => insSort T266.dflt cmp k xs a.1 a.2.1), (347, FSem.rfn T266 (.cons (.int .i64) (.cons (.int .i64) (.cons (.int .i64) .nil))) 267 fun xs a => symMergeK T266.dflt cmp k k xs a.1 a.2.1 a.2.2.1)]
theorem evS316 (cmp : T266.den → T266.den → Int) (k : Nat) (xs : List T266.den) (a : ((.cons (.int .i64) .nil) : Tys).den) : evFun (mkEnvF tsS266 (fsS316 cmp k) []) (H_stableRow T266) k bodyS316 63 [] (.row 0 :: (explodes (.cons (.int .i64) .nil) a ++ [.func 267 []])) [.row T266 xs] (decR T266) = stableRow T266.dflt cmp k xs a.1 := by kernel_rfl
noncomputable def bodyS266 : Code := match Try.f266.body with | some c => c | none => .skip
def fsS266 (cmp : T266.den → T266.den → Int) (k : Nat) : List (Nat × FSem) := [(316, FSem.rfn T266 (.cons (.int .i64) .nil) 267 fun xs a => stableRow T266.dflt cmp k xs a.1)]
theorem evS266 (cmp : T266.den → T266.den → Int) (k : Nat) (xs : List T266.den) (a : (.nil : Tys).den) : evFun (mkEnvF tsS266 (fsS266 cmp k) []) (H_sortStable T266) k bodyS266 9 [] (.row 0 :: (explodes .nil a ++ [.func 267 []])) [.row T266 xs] (decR T266) = sortStable T266.dflt cmp k xs := by kernel_rfl
section
variable {cmp : T266.den → T266.den → Int} (hc : SoundF Try.prog 267 (FSem.fn (.cons T266 (.cons T266 .nil)) (.cons (.int .i64) .nil) fun x => (cmp x.1 x.2.1, ())))
theorem SS361 (k : Nat) : SoundF Try.prog 361 (FSem.rfn T266 (.cons (.int .i64) (.cons (.int .i64) (.cons (.int .i64) .nil))) 267 fun xs a => swapRange T266.dflt k xs a.1 a.2.1 a.2.2.1) :=
  rfn_sound (E := fun _ => mkEnvF tsS266 (fsS361  k) []) (H := H_swapRange T266) (fun _ => mkEnvF_ok tyS266 (fun p hp => by unfold fsS361 at hp; cases hp)) mixedOK (by kernel_rfl : Try.prog.funcs[361]? = some Try.f361) (by kernel_rfl) (by kernel_rfl : Try.f361.body = some bodyS361) (by kernel_rfl) (by kernel_rfl) (fun xs a ys _ h => ⟨k, (evS361  k xs a).trans h⟩)
theorem SS358 (k : Nat) : SoundF Try.prog 358 (FSem.rfn T266 (.cons (.int .i64) (.cons (.int .i64) (.cons (.int .i64) .nil))) 267 fun xs a => rotate T266.dflt k xs a.1 a.2.1 a.2.2.1) :=
  rfn_sound (E := fun _ => mkEnvF tsS266 (fsS358  k) []) (H := H_rotate T266) (fun _ => mkEnvF_ok tyS266 (fun p hp => by
    unfold fsS358 at hp
    rcases List.mem_cons.1 hp with rfl | hp
    · exact SS361 k
    cases hp)) mixedOK (by kernel_rfl : Try.prog.funcs[358]? = some Try.f358) (by kernel_rfl) (by kernel_rfl : Try.f358.body = some bodyS358) (by kernel_rfl) (by kernel_rfl) (fun xs a ys _ h => ⟨k, (evS358  k xs a).trans h⟩)
include hc
theorem SS346 (k : Nat) : SoundF Try.prog 346 (FSem.rfn T266 (.cons (.int .i64) (.cons (.int .i64) .nil)) 267 fun xs a => insSort T266.dflt cmp k xs a.1 a.2.1) :=
  rfn_sound (E := fun _ => mkEnvF tsS266 (fsS346 cmp k) [(22, 267)]) (H := H_insSort T266) (fun _ => mkEnvF_ok tyS266 (fun p hp => by
    unfold fsS346 at hp
    rcases List.mem_cons.1 hp with rfl | hp
    · exact hc
    cases hp)) mixedOK (by kernel_rfl : Try.prog.funcs[346]? = some Try.f346) (by kernel_rfl) (by kernel_rfl : Try.f346.body = some bodyS346) (by kernel_rfl) (by kernel_rfl) (fun xs a ys _ h => ⟨k, (evS346 cmp k xs a).trans h⟩)
theorem SS347 (k : Nat) : ∀ n : Nat, SoundF Try.prog 347 (FSem.rfn T266 (.cons (.int .i64) (.cons (.int .i64) (.cons (.int .i64) .nil))) 267 fun xs a => symMergeK T266.dflt cmp k n xs a.1 a.2.1 a.2.2.1)
  | 0 => rfn_none
  | n + 1 => rfn_sound (E := fun _ => mkEnvF tsS266 (fsS347 cmp (symMergeK T266.dflt cmp k n) k) [(40, 267), (92, 267), (158, 267)]) (H := H_symMerge T266) (fun _ => mkEnvF_ok tyS266 (fun p hp => by
    unfold fsS347 at hp
    rcases List.mem_cons.1 hp with rfl | hp
    · exact hc
    rcases List.mem_cons.1 hp with rfl | hp
    · exact SS358 k
    rcases List.mem_cons.1 hp with rfl | hp
    · exact SS347 k n
    cases hp)) mixedOK (by kernel_rfl : Try.prog.funcs[347]? = some Try.f347) (by kernel_rfl) (by kernel_rfl : Try.f347.body = some bodyS347) (by kernel_rfl) (by kernel_rfl) (fun xs a ys _ h => ⟨k, (evS347 cmp (symMergeK T266.dflt cmp k n) k xs a).trans h⟩)
theorem SS316 (k : Nat) : SoundF Try.prog 316 (FSem.rfn T266 (.cons (.int .i64) .nil) 267 fun xs a => stableRow T266.dflt cmp k xs a.1) :=
  rfn_sound (E := fun _ => mkEnvF tsS266 (fsS316 cmp k) []) (H := H_stableRow T266) (fun _ => mkEnvF_ok tyS266 (fun p hp => by
    unfold fsS316 at hp
    rcases List.mem_cons.1 hp with rfl | hp
    · exact SS346 hc k
    rcases List.mem_cons.1 hp with rfl | hp
    · exact SS347 hc k k
    cases hp)) mixedOK (by kernel_rfl : Try.prog.funcs[316]? = some Try.f316) (by kernel_rfl) (by kernel_rfl : Try.f316.body = some bodyS316) (by kernel_rfl) (by kernel_rfl) (fun xs a ys _ h => ⟨k, (evS316 cmp k xs a).trans h⟩)
theorem SS266 (k : Nat) : SoundF Try.prog 266 (FSem.rfn T266 .nil 267 fun xs a => sortStable T266.dflt cmp k xs) :=
  rfn_sound (E := fun _ => mkEnvF tsS266 (fsS266 cmp k) []) (H := H_sortStable T266) (fun _ => mkEnvF_ok tyS266 (fun p hp => by
    unfold fsS266 at hp
    rcases List.mem_cons.1 hp with rfl | hp
    · exact SS316 hc k
    cases hp)) mixedOK (by kernel_rfl : Try.prog.funcs[266]? = some Try.f266) (by kernel_rfl) (by kernel_rfl : Try.f266.body = some bodyS266) (by kernel_rfl) (by kernel_rfl) (fun xs a ys _ h => ⟨k, (evS266 cmp k xs a).trans h⟩)
theorem SF266 (W : Weak (ltOf cmp)) : SoundF Try.prog 266 (FSem.rfn T266 .nil 267 fun xs a => if xs.length ≤ 4294967296 then some (stab (ltOf cmp) xs) else none) :=
  rfn_ex (fun k => SS266 hc k) (fun xs a ys h => by
    split at h
    · cases h
      exact ⟨xs.length + 2, sortStable_ok _ cmp W (by omega) (by omega)⟩
    · cases h)
end
abbrev T218 : Ty := (.struct (.cons (.int .i64) (.cons (.int .i64) (.cons (.int .i64) .nil))))
def tsS218 : List (Nat × TD) := [(3, .data (.int .i64)), (268, .data (.slice (.struct (.cons (.int .i64) (.cons (.int .i64) (.cons (.int .i64) .nil)))))), (270, .data (.struct (.cons (.int .i64) (.cons (.int .i64) (.cons (.int .i64) .nil))))), (12, .data (.int .u64)), (277, .data (.int .u64)), (319, .data (.int .u64)), (369, .data (.int .u64)), (4, .data .bool)]
theorem tyS218 : chkTypes Try.prog tsS218 = true := by kernel_rfl
noncomputable def bodyS359 : Code := match Try.f359.body with | some c => c | none => .skip
def fsS359  (k : Nat) : List (Nat × FSem) := []
theorem evS359  (k : Nat) (xs : List T218.den) (a : ((.cons (.int .i64) (.cons (.int .i64) (.cons (.int .i64) .nil))) : Tys).den) : evFun (mkEnvF tsS218 (fsS359  k) []) (H_swapRange T218) k bodyS359 38 [] (.row 0 :: (explodes (.cons (.int .i64) (.cons (.int .i64) (.cons (.int .i64) .nil))) a ++ [.func 219 []])) [.row T218 xs] (decR T218) = swapRange T218.dflt k xs a.1 a.2.1 a.2.2.1 := by kernel_rfl
noncomputable def bodyS348 : Code := match Try.f348.body with | some c => c | none => .skip
def fsS348  (k : Nat) : List (Nat × FSem) := [(359, FSem.rfn T218 (.cons (.int .i64) (.cons (.int .i64) (.cons (.int .i64) .nil))) 219 fun xs a => swapRange T218.dflt k xs a.1 a.2.1 a.2.2.1)]
theorem evS348  (k : Nat) (xs : List T218.den) (a : ((.cons (.int .i64) (.cons (.int .i64) (.cons (.int .i64) .nil))) : Tys).den) : evFun (mkEnvF tsS218 (fsS348  k) []) (H_rotate T218) k bodyS348 58 [] (.row 0 :: (explodes (.cons (.int .i64) (.cons (.int .i64) (.cons (.int .i64) .nil))) a ++ [.func 219 []])) [.row T218 xs] (decR T218) = rotate T218.dflt k xs a.1 a.2.1 a.2.2.1 := by kernel_rfl
noncomputable def bodyS317 : Code := match Try.f317.body with | some c => c | none => .skip
def fsS317 (cmp : T218.den → T218.den → Int) (k : Nat) : List (Nat × FSem) := [(219, FSem.fn (.cons T218 (.cons T218 .nil)) (.cons (.int .i64) .nil) fun x => (cmp x.1 x.2.1, ()))]
theorem evS317 (cmp : T218.den → T218.den → Int) (k : Nat) (xs : List T218.den) (a : ((.cons (.int .i64) (.cons (.int .i64) .nil)) : Tys).den) : evFun (mkEnvF tsS218 (fsS317 cmp k) [(22, 219)]) (H_insSort T218) k bodyS317 53 [] (.row 0 :: (explodes (.cons (.int .i64) (.cons (.int .i64) .nil)) a ++ [.func 219 []])) [.row T218 xs] (decR T218) = insSort T218.dflt cmp k xs a.1 a.2.1 := by kernel_rfl
noncomputable def bodyS318 : Code := match Try.f318.body with | some c => c | none => .skip
def fsS318 (cmp : T218.den → T218.den → Int) (rec : List T218.den → Int → Int → Int → Option (List T218.den)) (k : Nat) : List (Nat × FSem) := [(219, FSem.fn (.cons T218 (.cons T218 .nil)) (.cons (.int .i64) .nil) fun x => (cmp x.1 x.2.1, ())), (348, FSem.rfn T218 (.cons (.int .i64) (.cons (.int .i64) (.cons (.int .i64) .nil))) 219 fun xs a => rotate T218.dflt k xs a.1 a.2.1 a.2.2.1), (318, FSem.rfn T218 (.cons (.int .i64) (.cons (.int .i64) (.cons (.int .i64) .nil))) 219 fun xs a => rec xs a.1 a.2.1 a.2.2.1)]
theorem evS318 (cmp : T218.den → T218.den → Int) (rec : List T218.den → Int → Int → Int → Option (List T218.den)) (k : Nat) (xs : List T218.den) (a : ((.cons (.int .i64) (.cons (.int .i64) (.cons (.int .i64) .nil))) : Tys).den) : evFun (mkEnvF tsS218 (fsS318 cmp rec k) [(40, 219), (92, 219), (158, 219)]) (H_symMerge T218) k bodyS318 220 [] (.row 0 :: (explodes (.cons (.int .i64) (.cons (.int .i64) (.cons (.int .i64) .nil))) a ++ [.func 219 []])) [.row T218 xs] (decR T218) = symMergeF T218.dflt cmp rec k xs a.1 a.2.1 a.2.2.1 := by kernel_rfl
noncomputable def bodyS268 : Code := match Try.f268.body with | some c => c | none => .skip
def fsS268 (cmp : T218.den → T218.den → Int) (k : Nat) : List (Nat × FSem) := [(317, FSem.rfn T218 (.cons (.int .i64) (.cons (.int .i64) .nil)) 219 fun xs a => insSort T218.dflt cmp k xs a.1 a.2.1), (318, FSem.rfn T218 (.cons (.int .i64) (.cons (.int .i64) (.cons (.int .i64) .nil))) 219 fun xs a => symMergeK T218.dflt cmp k k xs a.1 a.2.1 a.2.2.1)]
theorem evS268 (cmp : T218.den → T218.den → Int) (k : Nat) (xs : List T218.den) (a : ((.cons (.int .i64) .nil) : Tys).den) : evFun (mkEnvF tsS218 (fsS268 cmp k) []) (H_stableRow T218) k bodyS268 63 [] (.row 0 :: (explodes (.cons (.int .i64) .nil) a ++ [.func 219 []])) [.row T218 xs] (decR T218) = stableRow T218.dflt cmp k xs a.1 := by kernel_rfl
noncomputable def bodyS218 : Code := match Try.f218.body with | some c => c | none => .skip
def fsS218 (cmp : T218.den → T218.den → Int) (k : Nat) : List (Nat × FSem) := [(268, FSem.rfn T218 (.cons (.int .i64) .nil) 219 fun xs a => stableRow T218.dflt cmp k xs a.1)]
theorem evS218 (cmp : T218.den → T218.den → Int) (k : Nat) (xs : List T218.den) (a : (.nil : Tys).den) : evFun (mkEnvF tsS218 (fsS218 cmp k) []) (H_sortStable T218) k bodyS218 9 [] (.row 0 :: (explodes .nil a ++ [.func 219 []])) [.row T218 xs] (decR T218) = sortStable T218.dflt cmp k xs := by kernel_rfl
section
variable {cmp : T218.den → T218.den → Int} (hc : SoundF Try.prog 219 (FSem.fn (.cons T218 (.cons T218 .nil)) (.cons (.int .i64) .nil) fun x => (cmp x.1 x.2.1, ())))
theorem SS359 (k : Nat) : SoundF Try.prog 359 (FSem.rfn T218 (.cons (.int .i64) (.cons (.int .i64) (.cons (.int .i64) .nil))) 219 fun xs a => swapRange T218.dflt k xs a.1 a.2.1 a.2.2.1) :=
  rfn_sound (E := fun _ => mkEnvF tsS218 (fsS359  k) []) (H := H_swapRange T218) (fun _ => mkEnvF_ok tyS218 (fun p hp => by unfold fsS359 at hp; cases hp)) mixedOK (by kernel_rfl : Try.prog.funcs[359]? = some Try.f359) (by kernel_rfl) (by kernel_rfl : Try.f359.body = some bodyS359) (by kernel_rfl) (by kernel_rfl) (fun xs a ys _ h => ⟨k, (evS359  k xs a).trans h⟩)
theorem SS348 (k : Nat) : SoundF Try.prog 348 (FSem.rfn T218 (.cons (.int .i64) (.cons (.int .i64) (.cons (.int .i64) .nil))) 219 fun xs a => rotate T218.dflt k xs a.1 a.2.1 a.2.2.1) :=
  rfn_sound (E := fun _ => mkEnvF tsS218 (fsS348  k) []) (H := H_rotate T218) (fun _ => mkEnvF_ok tyS218 (fun p hp => by
    unfold fsS348 at hp
    rcases List.mem_cons.1 hp with rfl | hp
    · exact SS359 k
    cases hp)) mixedOK (by kernel_rfl : Try.prog.funcs[348]? = some Try.f348) (by kernel_rfl) (by kernel_rfl : Try.f348.body = some bodyS348) (by kernel_rfl) (by kernel_rfl) (fun xs a ys _ h => ⟨k, (evS348  k xs a).trans h⟩)
include hc
theorem SS317 (k : Nat) : SoundF Try.prog 317 (FSem.rfn T218 (.cons (.int .i64) (.cons (.int .i64) .nil)) 219 fun xs a => insSort T218.dflt cmp k xs a.1 a.2.1) :=
  rfn_sound (E := fun _ => mkEnvF tsS218 (fsS317 cmp k) [(22, 219)]) (H := H_insSort T218) (fun _ => mkEnvF_ok tyS218 (fun p hp => by
    unfold fsS317 at hp
    rcases List.mem_cons.1 hp with rfl | hp
    · exact hc
    cases hp)) mixedOK (by kernel_rfl : Try.prog.funcs[317]? = some Try.f317) (by kernel_rfl) (by kernel_rfl : Try.f317.body = some bodyS317) (by kernel_rfl) (by kernel_rfl) (fun xs a ys _ h => ⟨k, (evS317 cmp k xs a).trans h⟩)
theorem SS318 (k : Nat) : ∀ n : Nat, SoundF Try.prog 318 (FSem.rfn T218 (.cons (.int .i64) (.cons (.int .i64) (.cons (.int .i64) .nil))) 219 fun xs a => symMergeK T218.dflt cmp k n xs a.1 a.2.1 a.2.2.1)
  | 0 => rfn_none
  | n + 1 => rfn_sound (E := fun _ => mkEnvF tsS218 (fsS318 cmp (symMergeK T218.dflt cmp k n) k) [(40, 219), (92, 219), (158, 219)]) (H := H_symMerge T218) (fun _ => mkEnvF_ok tyS218 (fun p hp => by
    unfold fsS318 at hp
    rcases List.mem_cons.1 hp with rfl | hp
    · exact hc
    rcases List.mem_cons.1 hp with rfl | hp
    · exact SS348 k
    rcases List.mem_cons.1 hp with rfl | hp
    · exact SS318 k n
    cases hp)) mixedOK (by kernel_rfl : Try.prog.funcs[318]? = some Try.f318) (by kernel_rfl) (by kernel_rfl : Try.f318.body = some bodyS318) (by kernel_rfl) (by kernel_rfl) (fun xs a ys _ h => ⟨k, (evS318 cmp (symMergeK T218.dflt cmp k n) k xs a).trans h⟩)
theorem SS268 (k : Nat) : SoundF Try.prog 268 (FSem.rfn T218 (.cons (.int .i64) .nil) 219 fun xs a => stableRow T218.dflt cmp k xs a.1) :=
  rfn_sound (E := fun _ => mkEnvF tsS218 (fsS268 cmp k) []) (H := H_stableRow T218) (fun _ => mkEnvF_ok tyS218 (fun p hp => by
    unfold fsS268 at hp
    rcases List.mem_cons.1 hp with rfl | hp
    · exact SS317 hc k
    rcases List.mem_cons.1 hp with rfl | hp
    · exact SS318 hc k k
    cases hp)) mixedOK (by kernel_rfl : Try.prog.funcs[268]? = some Try.f268) (by kernel_rfl) (by kernel_rfl : Try.f268.body = some bodyS268) (by kernel_rfl) (by kernel_rfl) (fun xs a ys _ h => ⟨k, (evS268 cmp k xs a).trans h⟩)
theorem SS218 (k : Nat) : SoundF Try.prog 218 (FSem.rfn T218 .nil 219 fun xs a => sortStable T218.dflt cmp k xs) :=
  rfn_sound (E := fun _ => mkEnvF tsS218 (fsS218 cmp k) []) (H := H_sortStable T218) (fun _ => mkEnvF_ok tyS218 (fun p hp => by
    unfold fsS218 at hp
    rcases List.mem_cons.1 hp with rfl | hp
    · exact SS268 hc k
    cases hp)) mixedOK (by kernel_rfl : Try.prog.funcs[218]? = some Try.f218) (by kernel_rfl) (by kernel_rfl : Try.f218.body = some bodyS218) (by kernel_rfl) (by kernel_rfl) (fun xs a ys _ h => ⟨k, (evS218 cmp k xs a).trans h⟩)
theorem SF218 (W : Weak (ltOf cmp)) : SoundF Try.prog 218 (FSem.rfn T218 .nil 219 fun xs a => if xs.length ≤ 4294967296 then some (stab (ltOf cmp) xs) else none) :=
  rfn_ex (fun k => SS218 hc k) (fun xs a ys h => by
    split at h
    · cases h
      exact ⟨xs.length + 2, sortStable_ok _ cmp W (by omega) (by omega)⟩
    · cases h)
end
end Go.Vm
