/- Go's stable sort at the types of these functions, as an own tool prints it. -/
import Derived.Test.YtjkidhjkpkcnhaaGreatDoorVmS
import Derived.Test.YtjkidhjkpkcnhaaGreatDoorVFn
import Derived.Test.YtjkidhjkpkcnhaaGreatDoorProg
set_option maxRecDepth 100000
set_option linter.unusedVariables false
namespace Go.Vm
open Go.Proofs
abbrev T212 : Ty := (.struct (.cons (.int .i64) (.cons (.int .i64) (.cons (.int .i64) .nil))))
def tsS212 : List (Nat × TD) := [(3, .data (.int .i64)), (233, .data (.slice (.struct (.cons (.int .i64) (.cons (.int .i64) (.cons (.int .i64) .nil)))))), (236, .data (.struct (.cons (.int .i64) (.cons (.int .i64) (.cons (.int .i64) .nil))))), (12, .data (.int .u64)), (190, .data (.int .u64)), (231, .data (.int .u64)), (260, .data (.int .u64)), (4, .data .bool)]
theorem tyS212 : chkTypes Tryz.prog tsS212 = true := by kernel_rfl
noncomputable def bodyS259 : Code := match Tryz.f259.body with | some c => c | none => .skip
def fsS259  (k : Nat) : List (Nat × FSem) := []
theorem evS259  (k : Nat) (xs : List T212.den) (a : ((.cons (.int .i64) (.cons (.int .i64) (.cons (.int .i64) .nil))) : Tys).den) : evFun (mkEnvF tsS212 (fsS259  k) []) (H_swapRange T212) k bodyS259 38 [] (.row 0 :: (explodes (.cons (.int .i64) (.cons (.int .i64) (.cons (.int .i64) .nil))) a ++ [.func 213 []])) [.row T212 xs] (decR T212) = swapRange T212.dflt k xs a.1 a.2.1 a.2.2.1 := by kernel_rfl
noncomputable def bodyS257 : Code := match Tryz.f257.body with | some c => c | none => .skip
def fsS257  (k : Nat) : List (Nat × FSem) := [(259, FSem.rfn T212 (.cons (.int .i64) (.cons (.int .i64) (.cons (.int .i64) .nil))) 213 fun xs a => swapRange T212.dflt k xs a.1 a.2.1 a.2.2.1)]
theorem evS257  (k : Nat) (xs : List T212.den) (a : ((.cons (.int .i64) (.cons (.int .i64) (.cons (.int .i64) .nil))) : Tys).den) : evFun (mkEnvF tsS212 (fsS257  k) []) (H_rotate T212) k bodyS257 58 [] (.row 0 :: (explodes (.cons (.int .i64) (.cons (.int .i64) (.cons (.int .i64) .nil))) a ++ [.func 213 []])) [.row T212 xs] (decR T212) = rotate T212.dflt k xs a.1 a.2.1 a.2.2.1 := by kernel_rfl
noncomputable def bodyS249 : Code := match Tryz.f249.body with | some c => c | none => .skip
def fsS249 (cmp : T212.den → T212.den → Int) (k : Nat) : List (Nat × FSem) := [(213, FSem.fn (.cons T212 (.cons T212 .nil)) (.cons (.int .i64) .nil) fun x => (cmp x.1 x.2.1, ()))]
theorem evS249 (cmp : T212.den → T212.den → Int) (k : Nat) (xs : List T212.den) (a : ((.cons (.int .i64) (.cons (.int .i64) .nil)) : Tys).den) : evFun (mkEnvF tsS212 (fsS249 cmp k) [(22, 213)]) (H_insSort T212) k bodyS249 53 [] (.row 0 :: (explodes (.cons (.int .i64) (.cons (.int .i64) .nil)) a ++ [.func 213 []])) [.row T212 xs] (decR T212) = insSort T212.dflt cmp k xs a.1 a.2.1 := by kernel_rfl
noncomputable def bodyS250 : Code := match Tryz.f250.body with | some c => c | none => .skip
def fsS250 (cmp : T212.den → T212.den → Int) (rec : List T212.den → Int → Int → Int → Option (List T212.den)) (k : Nat) : List (Nat × FSem) := [(213, FSem.fn (.cons T212 (.cons T212 .nil)) (.cons (.int .i64) .nil) fun x => (cmp x.1 x.2.1, ())), (257, FSem.rfn T212 (.cons (.int .i64) (.cons (.int .i64) (.cons (.int .i64) .nil))) 213 fun xs a => rotate T212.dflt k xs a.1 a.2.1 a.2.2.1), (250, FSem.rfn T212 (.cons (.int .i64) (.cons (.int .i64) (.cons (.int .i64) .nil))) 213 fun xs a => rec xs a.1 a.2.1 a.2.2.1)]
theorem evS250 (cmp : T212.den → T212.den → Int) (rec : List T212.den → Int → Int → Int → Option (List T212.den)) (k : Nat) (xs : List T212.den) (a : ((.cons (.int .i64) (.cons (.int .i64) (.cons (.int .i64) .nil))) : Tys).den) : evFun (mkEnvF tsS212 (fsS250 cmp rec k) [(40, 213), (92, 213), (158, 213)]) (H_symMerge T212) k bodyS250 220 [] (.row 0 :: (explodes (.cons (.int .i64) (.cons (.int .i64) (.cons (.int .i64) .nil))) a ++ [.func 213 []])) [.row T212 xs] (decR T212) = symMergeF T212.dflt cmp rec k xs a.1 a.2.1 a.2.2.1 := by kernel_rfl
noncomputable def bodyS234 : Code := match Tryz.f234.body with | some c => c | none => .skip
def fsS234 (cmp : T212.den → T212.den → Int) (k : Nat) : List (Nat × FSem) := [(249, FSem.rfn T212 (.cons (.int .i64) (.cons (.int .i64) .nil)) 213 fun xs a => insSort T212.dflt cmp k xs a.1 a.2.1), (250, FSem.rfn T212 (.cons (.int .i64) (.cons (.int .i64) (.cons (.int .i64) .nil))) 213 fun xs a => symMergeK T212.dflt cmp k k xs a.1 a.2.1 a.2.2.1)]
theorem evS234 (cmp : T212.den → T212.den → Int) (k : Nat) (xs : List T212.den) (a : ((.cons (.int .i64) .nil) : Tys).den) : evFun (mkEnvF tsS212 (fsS234 cmp k) []) (H_stableRow T212) k bodyS234 63 [] (.row 0 :: (explodes (.cons (.int .i64) .nil) a ++ [.func 213 []])) [.row T212 xs] (decR T212) = stableRow T212.dflt cmp k xs a.1 := by kernel_rfl
noncomputable def bodyS212 : Code := match Tryz.f212.body with | some c => c | none => .skip
def fsS212 (cmp : T212.den → T212.den → Int) (k : Nat) : List (Nat × FSem) := [(234, FSem.rfn T212 (.cons (.int .i64) .nil) 213 fun xs a => stableRow T212.dflt cmp k xs a.1)]
theorem evS212 (cmp : T212.den → T212.den → Int) (k : Nat) (xs : List T212.den) (a : (.nil : Tys).den) : evFun (mkEnvF tsS212 (fsS212 cmp k) []) (H_sortStable T212) k bodyS212 9 [] (.row 0 :: (explodes .nil a ++ [.func 213 []])) [.row T212 xs] (decR T212) = sortStable T212.dflt cmp k xs := by kernel_rfl
section
variable {cmp : T212.den → T212.den → Int} (hc : SoundF Tryz.prog 213 (FSem.fn (.cons T212 (.cons T212 .nil)) (.cons (.int .i64) .nil) fun x => (cmp x.1 x.2.1, ())))
theorem SS259 (k : Nat) : SoundF Tryz.prog 259 (FSem.rfn T212 (.cons (.int .i64) (.cons (.int .i64) (.cons (.int .i64) .nil))) 213 fun xs a => swapRange T212.dflt k xs a.1 a.2.1 a.2.2.1) :=
  rfn_sound (E := fun _ => mkEnvF tsS212 (fsS259  k) []) (H := H_swapRange T212) (fun _ => mkEnvF_ok tyS212 (fun p hp => by unfold fsS259 at hp; cases hp)) mixedOK (by kernel_rfl : Tryz.prog.funcs[259]? = some Tryz.f259) (by kernel_rfl) (by kernel_rfl : Tryz.f259.body = some bodyS259) (by kernel_rfl) (by kernel_rfl) (fun xs a ys _ h => ⟨k, (evS259  k xs a).trans h⟩)
theorem SS257 (k : Nat) : SoundF Tryz.prog 257 (FSem.rfn T212 (.cons (.int .i64) (.cons (.int .i64) (.cons (.int .i64) .nil))) 213 fun xs a => rotate T212.dflt k xs a.1 a.2.1 a.2.2.1) :=
  rfn_sound (E := fun _ => mkEnvF tsS212 (fsS257  k) []) (H := H_rotate T212) (fun _ => mkEnvF_ok tyS212 (fun p hp => by
    unfold fsS257 at hp
    rcases List.mem_cons.1 hp with rfl | hp
    · exact SS259 k
    cases hp)) mixedOK (by kernel_rfl : Tryz.prog.funcs[257]? = some Tryz.f257) (by kernel_rfl) (by kernel_rfl : Tryz.f257.body = some bodyS257) (by kernel_rfl) (by kernel_rfl) (fun xs a ys _ h => ⟨k, (evS257  k xs a).trans h⟩)
include hc
theorem SS249 (k : Nat) : SoundF Tryz.prog 249 (FSem.rfn T212 (.cons (.int .i64) (.cons (.int .i64) .nil)) 213 fun xs a => insSort T212.dflt cmp k xs a.1 a.2.1) :=
  rfn_sound (E := fun _ => mkEnvF tsS212 (fsS249 cmp k) [(22, 213)]) (H := H_insSort T212) (fun _ => mkEnvF_ok tyS212 (fun p hp => by
    unfold fsS249 at hp
    rcases List.mem_cons.1 hp with rfl | hp
    · exact hc
    cases hp)) mixedOK (by kernel_rfl : Tryz.prog.funcs[249]? = some Tryz.f249) (by kernel_rfl) (by kernel_rfl : Tryz.f249.body = some bodyS249) (by kernel_rfl) (by kernel_rfl) (fun xs a ys _ h => ⟨k, (evS249 cmp k xs a).trans h⟩)
theorem SS250 (k : Nat) : ∀ n : Nat, SoundF Tryz.prog 250 (FSem.rfn T212 (.cons (.int .i64) (.cons (.int .i64) (.cons (.int .i64) .nil))) 213 fun xs a => symMergeK T212.dflt cmp k n xs a.1 a.2.1 a.2.2.1)
  | 0 => rfn_none
  | n + 1 => rfn_sound (E := fun _ => mkEnvF tsS212 (fsS250 cmp (symMergeK T212.dflt cmp k n) k) [(40, 213), (92, 213), (158, 213)]) (H := H_symMerge T212) (fun _ => mkEnvF_ok tyS212 (fun p hp => by
    unfold fsS250 at hp
    rcases List.mem_cons.1 hp with rfl | hp
    · exact hc
    rcases List.mem_cons.1 hp with rfl | hp
    · exact SS257 k
    rcases List.mem_cons.1 hp with rfl | hp
    · exact SS250 k n
    cases hp)) mixedOK (by kernel_rfl : Tryz.prog.funcs[250]? = some Tryz.f250) (by kernel_rfl) (by kernel_rfl : Tryz.f250.body = some bodyS250) (by kernel_rfl) (by kernel_rfl) (fun xs a ys _ h => ⟨k, (evS250 cmp (symMergeK T212.dflt cmp k n) k xs a).trans h⟩)
theorem SS234 (k : Nat) : SoundF Tryz.prog 234 (FSem.rfn T212 (.cons (.int .i64) .nil) 213 fun xs a => stableRow T212.dflt cmp k xs a.1) :=
  rfn_sound (E := fun _ => mkEnvF tsS212 (fsS234 cmp k) []) (H := H_stableRow T212) (fun _ => mkEnvF_ok tyS212 (fun p hp => by
    unfold fsS234 at hp
    rcases List.mem_cons.1 hp with rfl | hp
    · exact SS249 hc k
    rcases List.mem_cons.1 hp with rfl | hp
    · exact SS250 hc k k
    cases hp)) mixedOK (by kernel_rfl : Tryz.prog.funcs[234]? = some Tryz.f234) (by kernel_rfl) (by kernel_rfl : Tryz.f234.body = some bodyS234) (by kernel_rfl) (by kernel_rfl) (fun xs a ys _ h => ⟨k, (evS234 cmp k xs a).trans h⟩)
theorem SS212 (k : Nat) : SoundF Tryz.prog 212 (FSem.rfn T212 .nil 213 fun xs a => sortStable T212.dflt cmp k xs) :=
  rfn_sound (E := fun _ => mkEnvF tsS212 (fsS212 cmp k) []) (H := H_sortStable T212) (fun _ => mkEnvF_ok tyS212 (fun p hp => by
    unfold fsS212 at hp
    rcases List.mem_cons.1 hp with rfl | hp
    · exact SS234 hc k
    cases hp)) mixedOK (by kernel_rfl : Tryz.prog.funcs[212]? = some Tryz.f212) (by kernel_rfl) (by kernel_rfl : Tryz.f212.body = some bodyS212) (by kernel_rfl) (by kernel_rfl) (fun xs a ys _ h => ⟨k, (evS212 cmp k xs a).trans h⟩)
theorem SF212 (W : Weak (ltOf cmp)) : SoundF Tryz.prog 212 (FSem.rfn T212 .nil 213 fun xs a => if xs.length ≤ 4294967296 then some (stab (ltOf cmp) xs) else none) :=
  rfn_ex (fun k => SS212 hc k) (fun xs a ys h => by
    split at h
    · cases h
      exact ⟨xs.length + 2, sortStable_ok _ cmp W (by omega) (by omega)⟩
    · cases h)
end
abbrev T186 : Ty := (.struct (.cons (.int .i64) (.cons (.int .i64) (.cons (.int .i64) .nil))))
def tsS186 : List (Nat × TD) := [(3, .data (.int .i64)), (238, .data (.slice (.struct (.cons (.int .i64) (.cons (.int .i64) (.cons (.int .i64) .nil)))))), (240, .data (.struct (.cons (.int .i64) (.cons (.int .i64) (.cons (.int .i64) .nil))))), (12, .data (.int .u64)), (190, .data (.int .u64)), (231, .data (.int .u64)), (260, .data (.int .u64)), (4, .data .bool)]
theorem tyS186 : chkTypes Tryz.prog tsS186 = true := by kernel_rfl
noncomputable def bodyS258 : Code := match Tryz.f258.body with | some c => c | none => .skip
def fsS258  (k : Nat) : List (Nat × FSem) := []
theorem evS258  (k : Nat) (xs : List T186.den) (a : ((.cons (.int .i64) (.cons (.int .i64) (.cons (.int .i64) .nil))) : Tys).den) : evFun (mkEnvF tsS186 (fsS258  k) []) (H_swapRange T186) k bodyS258 38 [] (.row 0 :: (explodes (.cons (.int .i64) (.cons (.int .i64) (.cons (.int .i64) .nil))) a ++ [.func 187 []])) [.row T186 xs] (decR T186) = swapRange T186.dflt k xs a.1 a.2.1 a.2.2.1 := by kernel_rfl
noncomputable def bodyS253 : Code := match Tryz.f253.body with | some c => c | none => .skip
def fsS253  (k : Nat) : List (Nat × FSem) := [(258, FSem.rfn T186 (.cons (.int .i64) (.cons (.int .i64) (.cons (.int .i64) .nil))) 187 fun xs a => swapRange T186.dflt k xs a.1 a.2.1 a.2.2.1)]
theorem evS253  (k : Nat) (xs : List T186.den) (a : ((.cons (.int .i64) (.cons (.int .i64) (.cons (.int .i64) .nil))) : Tys).den) : evFun (mkEnvF tsS186 (fsS253  k) []) (H_rotate T186) k bodyS253 58 [] (.row 0 :: (explodes (.cons (.int .i64) (.cons (.int .i64) (.cons (.int .i64) .nil))) a ++ [.func 187 []])) [.row T186 xs] (decR T186) = rotate T186.dflt k xs a.1 a.2.1 a.2.2.1 := by kernel_rfl
noncomputable def bodyS238 : Code := match Tryz.f238.body with | some c => c | none => .skip
def fsS238 (cmp : T186.den → T186.den → Int) (k : Nat) : List (Nat × FSem) := [(187, FSem.fn (.cons T186 (.cons T186 .nil)) (.cons (.int .i64) .nil) fun x => (cmp x.1 x.2.1, ()))]
theorem evS238 (cmp : T186.den → T186.den → Int) (k : Nat) (xs : List T186.den) (a : ((.cons (.int .i64) (.cons (.int .i64) .nil)) : Tys).den) : evFun (mkEnvF tsS186 (fsS238 cmp k) [(22, 187)]) (H_insSort T186) k bodyS238 53 [] (.row 0 :: (explodes (.cons (.int .i64) (.cons (.int .i64) .nil)) a ++ [.func 187 []])) [.row T186 xs] (decR T186) = insSort T186.dflt cmp k xs a.1 a.2.1 := by kernel_rfl
noncomputable def bodyS239 : Code := match Tryz.f239.body with | some c => c | none => .skip
def fsS239 (cmp : T186.den → T186.den → Int) (rec : List T186.den → Int → Int → Int → Option (List T186.den)) (k : Nat) : List (Nat × FSem) := [(187, FSem.fn (.cons T186 (.cons T186 .nil)) (.cons (.int .i64) .nil) fun x => (cmp x.1 x.2.1, ())), (253, FSem.rfn T186 (.cons (.int .i64) (.cons (.int .i64) (.cons (.int .i64) .nil))) 187 fun xs a => rotate T186.dflt k xs a.1 a.2.1 a.2.2.1), (239, FSem.rfn T186 (.cons (.int .i64) (.cons (.int .i64) (.cons (.int .i64) .nil))) 187 fun xs a => rec xs a.1 a.2.1 a.2.2.1)]
theorem evS239 (cmp : T186.den → T186.den → Int) (rec : List T186.den → Int → Int → Int → Option (List T186.den)) (k : Nat) (xs : List T186.den) (a : ((.cons (.int .i64) (.cons (.int .i64) (.cons (.int .i64) .nil))) : Tys).den) : evFun (mkEnvF tsS186 (fsS239 cmp rec k) [(40, 187), (92, 187), (158, 187)]) (H_symMerge T186) k bodyS239 220 [] (.row 0 :: (explodes (.cons (.int .i64) (.cons (.int .i64) (.cons (.int .i64) .nil))) a ++ [.func 187 []])) [.row T186 xs] (decR T186) = symMergeF T186.dflt cmp rec k xs a.1 a.2.1 a.2.2.1 := by kernel_rfl
noncomputable def bodyS220 : Code := match Tryz.f220.body with | some c => c | none => .skip
def fsS220 (cmp : T186.den → T186.den → Int) (k : Nat) : List (Nat × FSem) := [(238, FSem.rfn T186 (.cons (.int .i64) (.cons (.int .i64) .nil)) 187 fun xs a => insSort T186.dflt cmp k xs a.1 a.2.1), (239, FSem.rfn T186 (.cons (.int .i64) (.cons (.int .i64) (.cons (.int .i64) .nil))) 187 fun xs a => symMergeK T186.dflt cmp k k xs a.1 a.2.1 a.2.2.1)]
theorem evS220 (cmp : T186.den → T186.den → Int) (k : Nat) (xs : List T186.den) (a : ((.cons (.int .i64) .nil) : Tys).den) : evFun (mkEnvF tsS186 (fsS220 cmp k) []) (H_stableRow T186) k bodyS220 63 [] (.row 0 :: (explodes (.cons (.int .i64) .nil) a ++ [.func 187 []])) [.row T186 xs] (decR T186) = stableRow T186.dflt cmp k xs a.1 := by kernel_rfl
noncomputable def bodyS186 : Code := match Tryz.f186.body with | some c => c | none => .skip
def fsS186 (cmp : T186.den → T186.den → Int) (k : Nat) : List (Nat × FSem) := [(220, FSem.rfn T186 (.cons (.int .i64) .nil) 187 fun xs a => stableRow T186.dflt cmp k xs a.1)]
theorem evS186 (cmp : T186.den → T186.den → Int) (k : Nat) (xs : List T186.den) (a : (.nil : Tys).den) : evFun (mkEnvF tsS186 (fsS186 cmp k) []) (H_sortStable T186) k bodyS186 9 [] (.row 0 :: (explodes .nil a ++ [.func 187 []])) [.row T186 xs] (decR T186) = sortStable T186.dflt cmp k xs := by kernel_rfl
section
variable {cmp : T186.den → T186.den → Int} (hc : SoundF Tryz.prog 187 (FSem.fn (.cons T186 (.cons T186 .nil)) (.cons (.int .i64) .nil) fun x => (cmp x.1 x.2.1, ())))
theorem SS258 (k : Nat) : SoundF Tryz.prog 258 (FSem.rfn T186 (.cons (.int .i64) (.cons (.int .i64) (.cons (.int .i64) .nil))) 187 fun xs a => swapRange T186.dflt k xs a.1 a.2.1 a.2.2.1) :=
  rfn_sound (E := fun _ => mkEnvF tsS186 (fsS258  k) []) (H := H_swapRange T186) (fun _ => mkEnvF_ok tyS186 (fun p hp => by unfold fsS258 at hp; cases hp)) mixedOK (by kernel_rfl : Tryz.prog.funcs[258]? = some Tryz.f258) (by kernel_rfl) (by kernel_rfl : Tryz.f258.body = some bodyS258) (by kernel_rfl) (by kernel_rfl) (fun xs a ys _ h => ⟨k, (evS258  k xs a).trans h⟩)
theorem SS253 (k : Nat) : SoundF Tryz.prog 253 (FSem.rfn T186 (.cons (.int .i64) (.cons (.int .i64) (.cons (.int .i64) .nil))) 187 fun xs a => rotate T186.dflt k xs a.1 a.2.1 a.2.2.1) :=
  rfn_sound (E := fun _ => mkEnvF tsS186 (fsS253  k) []) (H := H_rotate T186) (fun _ => mkEnvF_ok tyS186 (fun p hp => by
    unfold fsS253 at hp
    rcases List.mem_cons.1 hp with rfl | hp
    · exact SS258 k
    cases hp)) mixedOK (by kernel_rfl : Tryz.prog.funcs[253]? = some Tryz.f253) (by kernel_rfl) (by kernel_rfl : Tryz.f253.body = some bodyS253) (by kernel_rfl) (by kernel_rfl) (fun xs a ys _ h => ⟨k, (evS253  k xs a).trans h⟩)
include hc
theorem SS238 (k : Nat) : SoundF Tryz.prog 238 (FSem.rfn T186 (.cons (.int .i64) (.cons (.int .i64) .nil)) 187 fun xs a => insSort T186.dflt cmp k xs a.1 a.2.1) :=
  rfn_sound (E := fun _ => mkEnvF tsS186 (fsS238 cmp k) [(22, 187)]) (H := H_insSort T186) (fun _ => mkEnvF_ok tyS186 (fun p hp => by
    unfold fsS238 at hp
    rcases List.mem_cons.1 hp with rfl | hp
    · exact hc
    cases hp)) mixedOK (by kernel_rfl : Tryz.prog.funcs[238]? = some Tryz.f238) (by kernel_rfl) (by kernel_rfl : Tryz.f238.body = some bodyS238) (by kernel_rfl) (by kernel_rfl) (fun xs a ys _ h => ⟨k, (evS238 cmp k xs a).trans h⟩)
theorem SS239 (k : Nat) : ∀ n : Nat, SoundF Tryz.prog 239 (FSem.rfn T186 (.cons (.int .i64) (.cons (.int .i64) (.cons (.int .i64) .nil))) 187 fun xs a => symMergeK T186.dflt cmp k n xs a.1 a.2.1 a.2.2.1)
  | 0 => rfn_none
  | n + 1 => rfn_sound (E := fun _ => mkEnvF tsS186 (fsS239 cmp (symMergeK T186.dflt cmp k n) k) [(40, 187), (92, 187), (158, 187)]) (H := H_symMerge T186) (fun _ => mkEnvF_ok tyS186 (fun p hp => by
    unfold fsS239 at hp
    rcases List.mem_cons.1 hp with rfl | hp
    · exact hc
    rcases List.mem_cons.1 hp with rfl | hp
    · exact SS253 k
    rcases List.mem_cons.1 hp with rfl | hp
    · exact SS239 k n
    cases hp)) mixedOK (by kernel_rfl : Tryz.prog.funcs[239]? = some Tryz.f239) (by kernel_rfl) (by kernel_rfl : Tryz.f239.body = some bodyS239) (by kernel_rfl) (by kernel_rfl) (fun xs a ys _ h => ⟨k, (evS239 cmp (symMergeK T186.dflt cmp k n) k xs a).trans h⟩)
theorem SS220 (k : Nat) : SoundF Tryz.prog 220 (FSem.rfn T186 (.cons (.int .i64) .nil) 187 fun xs a => stableRow T186.dflt cmp k xs a.1) :=
  rfn_sound (E := fun _ => mkEnvF tsS186 (fsS220 cmp k) []) (H := H_stableRow T186) (fun _ => mkEnvF_ok tyS186 (fun p hp => by
    unfold fsS220 at hp
    rcases List.mem_cons.1 hp with rfl | hp
    · exact SS238 hc k
    rcases List.mem_cons.1 hp with rfl | hp
    · exact SS239 hc k k
    cases hp)) mixedOK (by kernel_rfl : Tryz.prog.funcs[220]? = some Tryz.f220) (by kernel_rfl) (by kernel_rfl : Tryz.f220.body = some bodyS220) (by kernel_rfl) (by kernel_rfl) (fun xs a ys _ h => ⟨k, (evS220 cmp k xs a).trans h⟩)
theorem SS186 (k : Nat) : SoundF Tryz.prog 186 (FSem.rfn T186 .nil 187 fun xs a => sortStable T186.dflt cmp k xs) :=
  rfn_sound (E := fun _ => mkEnvF tsS186 (fsS186 cmp k) []) (H := H_sortStable T186) (fun _ => mkEnvF_ok tyS186 (fun p hp => by
    unfold fsS186 at hp
    rcases List.mem_cons.1 hp with rfl | hp
    · exact SS220 hc k
    cases hp)) mixedOK (by kernel_rfl : Tryz.prog.funcs[186]? = some Tryz.f186) (by kernel_rfl) (by kernel_rfl : Tryz.f186.body = some bodyS186) (by kernel_rfl) (by kernel_rfl) (fun xs a ys _ h => ⟨k, (evS186 cmp k xs a).trans h⟩)
theorem SF186 (W : Weak (ltOf cmp)) : SoundF Tryz.prog 186 (FSem.rfn T186 .nil 187 fun xs a => if xs.length ≤ 4294967296 then some (stab (ltOf cmp) xs) else none) :=
  rfn_ex (fun k => SS186 hc k) (fun xs a ys h => by
    split at h
    · cases h
      exact ⟨xs.length + 2, sortStable_ok _ cmp W (by omega) (by omega)⟩
    · cases h)
end
end Go.Vm
