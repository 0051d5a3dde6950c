/- Go's stable sort at the types of these functions, as an own tool prints it. -/
import Derived.Test.YtfiembgemhonlaaVmS
import Derived.Test.YtfiembgemhonlaaBFn
import Derived.Test.YtfiembgemhonlaaProg
set_option maxRecDepth 100000
set_option linter.unusedVariables false
namespace Go.Vm
open Go.Proofs
abbrev T192 : Ty := (.struct (.cons .str (.cons .str (.cons .str (.cons (.int .i64) (.cons (.int .i64) .nil))))))
def tsS192 : List (Nat × TD) := [(3, .data (.int .i64)), (160, .data (.slice (.struct (.cons .str (.cons .str (.cons .str (.cons (.int .i64) (.cons (.int .i64) .nil)))))))), (165, .data (.struct (.cons .str (.cons .str (.cons .str (.cons (.int .i64) (.cons (.int .i64) .nil))))))), (12, .data (.int .u64)), (277, .data (.int .u64)), (319, .data (.int .u64)), (369, .data (.int .u64)), (4, .data .bool)]
theorem tyS192 : chkTypes Try.prog tsS192 = true := by kernel_rfl
noncomputable def bodyS356 : Code := match Try.f356.body with | some c => c | none => .skip
def fsS356  (k : Nat) : List (Nat × FSem) := []
theorem evS356  (k : Nat) (xs : List T192.den) (a : ((.cons (.int .i64) (.cons (.int .i64) (.cons (.int .i64) .nil))) : Tys).den) : evFun (mkEnvF tsS192 (fsS356  k) []) (H_swapRange T192) k bodyS356 38 [] (.row 0 :: (explodes (.cons (.int .i64) (.cons (.int .i64) (.cons (.int .i64) .nil))) a ++ [.func 193 []])) [.row T192 xs] (decR T192) = swapRange T192.dflt k xs a.1 a.2.1 a.2.2.1 := by kernel_rfl
noncomputable def bodyS342 : Code := match Try.f342.body with | some c => c | none => .skip
def fsS342  (k : Nat) : List (Nat × FSem) := [(356, FSem.rfn T192 (.cons (.int .i64) (.cons (.int .i64) (.cons (.int .i64) .nil))) 193 fun xs a => swapRange T192.dflt k xs a.1 a.2.1 a.2.2.1)]
theorem evS342  (k : Nat) (xs : List T192.den) (a : ((.cons (.int .i64) (.cons (.int .i64) (.cons (.int .i64) .nil))) : Tys).den) : evFun (mkEnvF tsS192 (fsS342  k) []) (H_rotate T192) k bodyS342 58 [] (.row 0 :: (explodes (.cons (.int .i64) (.cons (.int .i64) (.cons (.int .i64) .nil))) a ++ [.func 193 []])) [.row T192 xs] (decR T192) = rotate T192.dflt k xs a.1 a.2.1 a.2.2.1 := by kernel_rfl
noncomputable def bodyS303 : Code := match Try.f303.body with | some c => c | none => .skip
def fsS303 (cmp : T192.den → T192.den → Int) (k : Nat) : List (Nat × FSem) := [(193, FSem.fn (.cons T192 (.cons T192 .nil)) (.cons (.int .i64) .nil) fun x => (cmp x.1 x.2.1, ()))]
theorem evS303 (cmp : T192.den → T192.den → Int) (k : Nat) (xs : List T192.den) (a : ((.cons (.int .i64) (.cons (.int .i64) .nil)) : Tys).den) : evFun (mkEnvF tsS192 (fsS303 cmp k) [(22, 193)]) (H_insSort T192) k bodyS303 53 [] (.row 0 :: (explodes (.cons (.int .i64) (.cons (.int .i64) .nil)) a ++ [.func 193 []])) [.row T192 xs] (decR T192) = insSort T192.dflt cmp k xs a.1 a.2.1 := by kernel_rfl
noncomputable def bodyS304 : Code := match Try.f304.body with | some c => c | none => .skip
def fsS304 (cmp : T192.den → T192.den → Int) (rec : List T192.den → Int → Int → Int → Option (List T192.den)) (k : Nat) : List (Nat × FSem) := [(193, FSem.fn (.cons T192 (.cons T192 .nil)) (.cons (.int .i64) .nil) fun x => (cmp x.1 x.2.1, ())), (342, FSem.rfn T192 (.cons (.int .i64) (.cons (.int .i64) (.cons (.int .i64) .nil))) 193 fun xs a => rotate T192.dflt k xs a.1 a.2.1 a.2.2.1), (304, FSem.rfn T192 (.cons (.int .i64) (.cons (.int .i64) (.cons (.int .i64) .nil))) 193 fun xs a => rec xs a.1 a.2.1 a.2.2.1)]
theorem evS304 (cmp : T192.den → T192.den → Int) (rec : List T192.den → Int → Int → Int → Option (List T192.den)) (k : Nat) (xs : List T192.den) (a : ((.cons (.int .i64) (.cons (.int .i64) (.cons (.int .i64) .nil))) : Tys).den) : evFun (mkEnvF tsS192 (fsS304 cmp rec k) [(40, 193), (92, 193), (158, 193)]) (H_symMerge T192) k bodyS304 220 [] (.row 0 :: (explodes (.cons (.int .i64) (.cons (.int .i64) (.cons (.int .i64) .nil))) a ++ [.func 193 []])) [.row T192 xs] (decR T192) = symMergeF T192.dflt cmp rec k xs a.1 a.2.1 a.2.2.1 := by kernel_rfl
noncomputable def bodyS255 : Code := match Try.f255.body with | some c => c | none => .skip
def fsS255 (cmp : T192.den → T192.den → Int) (k : Nat) : List (Nat × FSem) := [(303, FSem.rfn T192 (.cons (.int .i64) (.cons (.int .i64) .nil)) 193 fun xs a => insSort T192.dflt cmp k xs a.1 a.2.1), (304, FSem.rfn T192 (.cons (.int .i64) (.cons (.int .i64) (.cons (.int .i64) .nil))) 193 fun xs a => symMergeK T192.dflt cmp k k xs a.1 a.2.1 a.2.2.1)]
theorem evS255 (cmp : T192.den → T192.den → Int) (k : Nat) (xs : List T192.den) (a : ((.cons (.int .i64) .nil) : Tys).den) : evFun (mkEnvF tsS192 (fsS255 cmp k) []) (H_stableRow T192) k bodyS255 63 [] (.row 0 :: (explodes (.cons (.int .i64) .nil) a ++ [.func 193 []])) [.row T192 xs] (decR T192) = stableRow T192.dflt cmp k xs a.1 := by kernel_rfl
noncomputable def bodyS192 : Code := match Try.f192.body with | some c => c | none => .skip
def fsS192 (cmp : T192.den → T192.den → Int) (k : Nat) : List (Nat × FSem) := [(255, FSem.rfn T192 (.cons (.int .i64) .nil) 193 fun xs a => stableRow T192.dflt cmp k xs a.1)]
theorem evS192 (cmp : T192.den → T192.den → Int) (k : Nat) (xs : List T192.den) (a : (.nil : Tys).den) : evFun (mkEnvF tsS192 (fsS192 cmp k) []) (H_sortStable T192) k bodyS192 9 [] (.row 0 :: (explodes .nil a ++ [.func 193 []])) [.row T192 xs] (decR T192) = sortStable T192.dflt cmp k xs := by kernel_rfl
section
variable {cmp : T192.den → T192.den → Int} (hc : SoundF Try.prog 193 (FSem.fn (.cons T192 (.cons T192 .nil)) (.cons (.int .i64) .nil) fun x => (cmp x.1 x.2.1, ())))
theorem SS356 (k : Nat) : SoundF Try.prog 356 (FSem.rfn T192 (.cons (.int .i64) (.cons (.int .i64) (.cons (.int .i64) .nil))) 193 fun xs a => swapRange T192.dflt k xs a.1 a.2.1 a.2.2.1) :=
  rfn_sound (E := fun _ => mkEnvF tsS192 (fsS356  k) []) (H := H_swapRange T192) (fun _ => mkEnvF_ok tyS192 (fun p hp => by unfold fsS356 at hp; cases hp)) mixedOK (by kernel_rfl : Try.prog.funcs[356]? = some Try.f356) (by kernel_rfl) (by kernel_rfl : Try.f356.body = some bodyS356) (by kernel_rfl) (by kernel_rfl) (fun xs a ys _ h => ⟨k, (evS356  k xs a).trans h⟩)
theorem SS342 (k : Nat) : SoundF Try.prog 342 (FSem.rfn T192 (.cons (.int .i64) (.cons (.int .i64) (.cons (.int .i64) .nil))) 193 fun xs a => rotate T192.dflt k xs a.1 a.2.1 a.2.2.1) :=
  rfn_sound (E := fun _ => mkEnvF tsS192 (fsS342  k) []) (H := H_rotate T192) (fun _ => mkEnvF_ok tyS192 (fun p hp => by
    unfold fsS342 at hp
    rcases List.mem_cons.1 hp with rfl | hp
    · exact SS356 k
    cases hp)) mixedOK (by kernel_rfl : Try.prog.funcs[342]? = some Try.f342) (by kernel_rfl) (by kernel_rfl : Try.f342.body = some bodyS342) (by kernel_rfl) (by kernel_rfl) (fun xs a ys _ h => ⟨k, (evS342  k xs a).trans h⟩)
include hc
theorem SS303 (k : Nat) : SoundF Try.prog 303 (FSem.rfn T192 (.cons (.int .i64) (.cons (.int .i64) .nil)) 193 fun xs a => insSort T192.dflt cmp k xs a.1 a.2.1) :=
  rfn_sound (E := fun _ => mkEnvF tsS192 (fsS303 cmp k) [(22, 193)]) (H := H_insSort T192) (fun _ => mkEnvF_ok tyS192 (fun p hp => by
    unfold fsS303 at hp
    rcases List.mem_cons.1 hp with rfl | hp
    · exact hc
    cases hp)) mixedOK (by kernel_rfl : Try.prog.funcs[303]? = some Try.f303) (by kernel_rfl) (by kernel_rfl : Try.f303.body = some bodyS303) (by kernel_rfl) (by kernel_rfl) (fun xs a ys _ h => ⟨k, (evS303 cmp k xs a).trans h⟩)
theorem SS304 (k : Nat) : ∀ n : Nat, SoundF Try.prog 304 (FSem.rfn T192 (.cons (.int .i64) (.cons (.int .i64) (.cons (.int .i64) .nil))) 193 fun xs a => symMergeK T192.dflt cmp k n xs a.1 a.2.1 a.2.2.1)
  | 0 => rfn_none
  | n + 1 => rfn_sound (E := fun _ => mkEnvF tsS192 (fsS304 cmp (symMergeK T192.dflt cmp k n) k) [(40, 193), (92, 193), (158, 193)]) (H := H_symMerge T192) (fun _ => mkEnvF_ok tyS192 (fun p hp => by
    unfold fsS304 at hp
    rcases List.mem_cons.1 hp with rfl | hp
    · exact hc
    rcases List.mem_cons.1 hp with rfl | hp
    · exact SS342 k
    rcases List.mem_cons.1 hp with rfl | hp
    · exact SS304 k n
    cases hp)) mixedOK (by kernel_rfl : Try.prog.funcs[304]? = some Try.f304) (by kernel_rfl) (by kernel_rfl : Try.f304.body = some bodyS304) (by kernel_rfl) (by kernel_rfl) (fun xs a ys _ h => ⟨k, (evS304 cmp (symMergeK T192.dflt cmp k n) k xs a).trans h⟩)
theorem SS255 (k : Nat) : SoundF Try.prog 255 (FSem.rfn T192 (.cons (.int .i64) .nil) 193 fun xs a => stableRow T192.dflt cmp k xs a.1) :=
  rfn_sound (E := fun _ => mkEnvF tsS192 (fsS255 cmp k) []) (H := H_stableRow T192) (fun _ => mkEnvF_ok tyS192 (fun p hp => by
    unfold fsS255 at hp
    rcases List.mem_cons.1 hp with rfl | hp
    · exact SS303 hc k
    rcases List.mem_cons.1 hp with rfl | hp
    · exact SS304 hc k k
    cases hp)) mixedOK (by kernel_rfl : Try.prog.funcs[255]? = some Try.f255) (by kernel_rfl) (by kernel_rfl : Try.f255.body = some bodyS255) (by kernel_rfl) (by kernel_rfl) (fun xs a ys _ h => ⟨k, (evS255 cmp k xs a).trans h⟩)
theorem SS192 (k : Nat) : SoundF Try.prog 192 (FSem.rfn T192 .nil 193 fun xs a => sortStable T192.dflt cmp k xs) :=
  rfn_sound (E := fun _ => mkEnvF tsS192 (fsS192 cmp k) []) (H := H_sortStable T192) (fun _ => mkEnvF_ok tyS192 (fun p hp => by
    unfold fsS192 at hp
    rcases List.mem_cons.1 hp with rfl | hp
    · exact SS255 hc k
    cases hp)) mixedOK (by kernel_rfl : Try.prog.funcs[192]? = some Try.f192) (by kernel_rfl) (by kernel_rfl : Try.f192.body = some bodyS192) (by kernel_rfl) (by kernel_rfl) (fun xs a ys _ h => ⟨k, (evS192 cmp k xs a).trans h⟩)
theorem SF192_193 (W : Weak (ltOf cmp)) : SoundF Try.prog 192 (FSem.rfn T192 .nil 193 fun xs a => if xs.length ≤ 4294967296 then some (stab (ltOf cmp) xs) else none) :=
  rfn_ex (fun k => SS192 hc k) (fun xs a ys h => by
    split at h
    · cases h
      exact ⟨xs.length + 2, sortStable_ok _ cmp W (by omega) (by omega)⟩
    · cases h)
end
def fsSB356  (k : Nat) : List (Nat × FSem) := []
theorem evSB356  (k : Nat) (xs : List T192.den) (a : ((.cons (.int .i64) (.cons (.int .i64) (.cons (.int .i64) .nil))) : Tys).den) : evFun (mkEnvF tsS192 (fsSB356  k) []) (H_swapRange T192) k bodyS356 38 [] (.row 0 :: (explodes (.cons (.int .i64) (.cons (.int .i64) (.cons (.int .i64) .nil))) a ++ [.func 201 []])) [.row T192 xs] (decR T192) = swapRange T192.dflt k xs a.1 a.2.1 a.2.2.1 := by kernel_rfl
def fsSB342  (k : Nat) : List (Nat × FSem) := [(356, FSem.rfn T192 (.cons (.int .i64) (.cons (.int .i64) (.cons (.int .i64) .nil))) 201 fun xs a => swapRange T192.dflt k xs a.1 a.2.1 a.2.2.1)]
theorem evSB342  (k : Nat) (xs : List T192.den) (a : ((.cons (.int .i64) (.cons (.int .i64) (.cons (.int .i64) .nil))) : Tys).den) : evFun (mkEnvF tsS192 (fsSB342  k) []) (H_rotate T192) k bodyS342 58 [] (.row 0 :: (explodes (.cons (.int .i64) (.cons (.int .i64) (.cons (.int .i64) .nil))) a ++ [.func 201 []])) [.row T192 xs] (decR T192) = rotate T192.dflt k xs a.1 a.2.1 a.2.2.1 := by kernel_rfl
def fsSB303 (cmp : T192.den → T192.den → Int) (k : Nat) : List (Nat × FSem) := [(201, FSem.fn (.cons T192 (.cons T192 .nil)) (.cons (.int .i64) .nil) fun x => (cmp x.1 x.2.1, ()))]
theorem evSB303 (cmp : T192.den → T192.den → Int) (k : Nat) (xs : List T192.den) (a : ((.cons (.int .i64) (.cons (.int .i64) .nil)) : Tys).den) : evFun (mkEnvF tsS192 (fsSB303 cmp k) [(22, 201)]) (H_insSort T192) k bodyS303 53 [] (.row 0 :: (explodes (.cons (.int .i64) (.cons (.int .i64) .nil)) a ++ [.func 201 []])) [.row T192 xs] (decR T192) = insSort T192.dflt cmp k xs a.1 a.2.1 := by kernel_rfl
def fsSB304 (cmp : T192.den → T192.den → Int) (rec : List T192.den → Int → Int → Int → Option (List T192.den)) (k : Nat) : List (Nat × FSem) := [(201, FSem.fn (.cons T192 (.cons T192 .nil)) (.cons (.int .i64) .nil) fun x => (cmp x.1 x.2.1, ())), (342, FSem.rfn T192 (.cons (.int .i64) (.cons (.int .i64) (.cons (.int .i64) .nil))) 201 fun xs a => rotate T192.dflt k xs a.1 a.2.1 a.2.2.1), (304, FSem.rfn T192 (.cons (.int .i64) (.cons (.int .i64) (.cons (.int .i64) .nil))) 201 fun xs a => rec xs a.1 a.2.1 a.2.2.1)]
theorem evSB304 (cmp : T192.den → T192.den → Int) (rec : List T192.den → Int → Int → Int → Option (List T192.den)) (k : Nat) (xs : List T192.den) (a : ((.cons (.int .i64) (.cons (.int .i64) (.cons (.int .i64) .nil))) : Tys).den) : evFun (mkEnvF tsS192 (fsSB304 cmp rec k) [(40, 201), (92, 201), (158, 201)]) (H_symMerge T192) k bodyS304 220 [] (.row 0 :: (explodes (.cons (.int .i64) (.cons (.int .i64) (.cons (.int .i64) .nil))) a ++ [.func 201 []])) [.row T192 xs] (decR T192) = symMergeF T192.dflt cmp rec k xs a.1 a.2.1 a.2.2.1 := by kernel_rfl
def fsSB255 (cmp : T192.den → T192.den → Int) (k : Nat) : List (Nat × FSem) := [(303, FSem.rfn T192 (.cons (.int .i64) (.cons (.int .i64) .nil)) 201 fun xs a => insSort T192.dflt cmp k xs a.1 a.2.1), (304, FSem.rfn T192 (.cons (.int .i64) (.cons (.int .i64) (.cons (.int .i64) .nil))) 201 fun xs a => symMergeK T192.dflt cmp k k xs a.1 a.2.1 a.2.2.1)]
theorem evSB255 (cmp : T192.den → T192.den → Int) (k : Nat) (xs : List T192.den) (a : ((.cons (.int .i64) .nil) : Tys).den) : evFun (mkEnvF tsS192 (fsSB255 cmp k) []) (H_stableRow T192) k bodyS255 63 [] (.row 0 :: (explodes (.cons (.int .i64) .nil) a ++ [.func 201 []])) [.row T192 xs] (decR T192) = stableRow T192.dflt cmp k xs a.1 := by kernel_rfl
def fsSB192 (cmp : T192.den → T192.den → Int) (k : Nat) : List (Nat × FSem) := [(255, FSem.rfn T192 (.cons (.int .i64) .nil) 201 fun xs a => stableRow T192.dflt cmp k xs a.1)]
theorem evSB192 (cmp : T192.den → T192.den → Int) (k : Nat) (xs : List T192.den) (a : (.nil : Tys).den) : evFun (mkEnvF tsS192 (fsSB192 cmp k) []) (H_sortStable T192) k bodyS192 9 [] (.row 0 :: (explodes .nil a ++ [.func 201 []])) [.row T192 xs] (decR T192) = sortStable T192.dflt cmp k xs := by kernel_rfl
section
variable {cmp : T192.den → T192.den → Int} (hc : SoundF Try.prog 201 (FSem.fn (.cons T192 (.cons T192 .nil)) (.cons (.int .i64) .nil) fun x => (cmp x.1 x.2.1, ())))
theorem SSB356 (k : Nat) : SoundF Try.prog 356 (FSem.rfn T192 (.cons (.int .i64) (.cons (.int .i64) (.cons (.int .i64) .nil))) 201 fun xs a => swapRange T192.dflt k xs a.1 a.2.1 a.2.2.1) :=
  rfn_sound (E := fun _ => mkEnvF tsS192 (fsSB356  k) []) (H := H_swapRange T192) (fun _ => mkEnvF_ok tyS192 (fun p hp => by unfold fsSB356 at hp; cases hp)) mixedOK (by kernel_rfl : Try.prog.funcs[356]? = some Try.f356) (by kernel_rfl) (by kernel_rfl : Try.f356.body = some bodyS356) (by kernel_rfl) (by kernel_rfl) (fun xs a ys _ h => ⟨k, (evSB356  k xs a).trans h⟩)
theorem SSB342 (k : Nat) : SoundF Try.prog 342 (FSem.rfn T192 (.cons (.int .i64) (.cons (.int .i64) (.cons (.int .i64) .nil))) 201 fun xs a => rotate T192.dflt k xs a.1 a.2.1 a.2.2.1) :=
  rfn_sound (E := fun _ => mkEnvF tsS192 (fsSB342  k) []) (H := H_rotate T192) (fun _ => mkEnvF_ok tyS192 (fun p hp => by
    unfold fsSB342 at hp
    rcases List.mem_cons.1 hp with rfl | hp
    · exact SSB356 k
    cases hp)) mixedOK (by kernel_rfl : Try.prog.funcs[342]? = some Try.f342) (by kernel_rfl) (by kernel_rfl : Try.f342.body = some bodyS342) (by kernel_rfl) (by kernel_rfl) (fun xs a ys _ h => ⟨k, (evSB342  k xs a).trans h⟩)
include hc
theorem SSB303 (k : Nat) : SoundF Try.prog 303 (FSem.rfn T192 (.cons (.int .i64) (.cons (.int .i64) .nil)) 201 fun xs a => insSort T192.dflt cmp k xs a.1 a.2.1) :=
  rfn_sound (E := fun _ => mkEnvF tsS192 (fsSB303 cmp k) [(22, 201)]) (H := H_insSort T192) (fun _ => mkEnvF_ok tyS192 (fun p hp => by
    unfold fsSB303 at hp
    rcases List.mem_cons.1 hp with rfl | hp
    · exact hc
    cases hp)) mixedOK (by kernel_rfl : Try.prog.funcs[303]? = some Try.f303) (by kernel_rfl) (by kernel_rfl : Try.f303.body = some bodyS303) (by kernel_rfl) (by kernel_rfl) (fun xs a ys _ h => ⟨k, (evSB303 cmp k xs a).trans h⟩)
theorem SSB304 (k : Nat) : ∀ n : Nat, SoundF Try.prog 304 (FSem.rfn T192 (.cons (.int .i64) (.cons (.int .i64) (.cons (.int .i64) .nil))) 201 fun xs a => symMergeK T192.dflt cmp k n xs a.1 a.2.1 a.2.2.1)
  | 0 => rfn_none
  | n + 1 => rfn_sound (E := fun _ => mkEnvF tsS192 (fsSB304 cmp (symMergeK T192.dflt cmp k n) k) [(40, 201), (92, 201), (158, 201)]) (H := H_symMerge T192) (fun _ => mkEnvF_ok tyS192 (fun p hp => by
    unfold fsSB304 at hp
    rcases List.mem_cons.1 hp with rfl | hp
    · exact hc
    rcases List.mem_cons.1 hp with rfl | hp
    · exact SSB342 k
    rcases List.mem_cons.1 hp with rfl | hp
    · exact SSB304 k n
    cases hp)) mixedOK (by kernel_rfl : Try.prog.funcs[304]? = some Try.f304) (by kernel_rfl) (by kernel_rfl : Try.f304.body = some bodyS304) (by kernel_rfl) (by kernel_rfl) (fun xs a ys _ h => ⟨k, (evSB304 cmp (symMergeK T192.dflt cmp k n) k xs a).trans h⟩)
theorem SSB255 (k : Nat) : SoundF Try.prog 255 (FSem.rfn T192 (.cons (.int .i64) .nil) 201 fun xs a => stableRow T192.dflt cmp k xs a.1) :=
  rfn_sound (E := fun _ => mkEnvF tsS192 (fsSB255 cmp k) []) (H := H_stableRow T192) (fun _ => mkEnvF_ok tyS192 (fun p hp => by
    unfold fsSB255 at hp
    rcases List.mem_cons.1 hp with rfl | hp
    · exact SSB303 hc k
    rcases List.mem_cons.1 hp with rfl | hp
    · exact SSB304 hc k k
    cases hp)) mixedOK (by kernel_rfl : Try.prog.funcs[255]? = some Try.f255) (by kernel_rfl) (by kernel_rfl : Try.f255.body = some bodyS255) (by kernel_rfl) (by kernel_rfl) (fun xs a ys _ h => ⟨k, (evSB255 cmp k xs a).trans h⟩)
theorem SSB192 (k : Nat) : SoundF Try.prog 192 (FSem.rfn T192 .nil 201 fun xs a => sortStable T192.dflt cmp k xs) :=
  rfn_sound (E := fun _ => mkEnvF tsS192 (fsSB192 cmp k) []) (H := H_sortStable T192) (fun _ => mkEnvF_ok tyS192 (fun p hp => by
    unfold fsSB192 at hp
    rcases List.mem_cons.1 hp with rfl | hp
    · exact SSB255 hc k
    cases hp)) mixedOK (by kernel_rfl : Try.prog.funcs[192]? = some Try.f192) (by kernel_rfl) (by kernel_rfl : Try.f192.body = some bodyS192) (by kernel_rfl) (by kernel_rfl) (fun xs a ys _ h => ⟨k, (evSB192 cmp k xs a).trans h⟩)
theorem SF192_201 {c2 : T192.den → T192.den → Int} {p : T192.den → Prop} [DecidablePred p] (hd : p T192.dflt) (hcc : ∀ a b, p a → p b → cmp a b = c2 a b) (W : Weak (ltOf c2)) : SoundF Try.prog 192 (FSem.rfn T192 .nil 201 fun xs a => if xs.length ≤ 4294967296 ∧ ∀ x ∈ xs, p x then some (stab (ltOf c2) xs) else none) :=
  rfn_ex (fun k => SSB192 hc k) (fun xs a ys h => by
    split at h
    · rename_i hx
      cases h
      exact ⟨xs.length + 2, (sortStable_congr hd hcc _ hx.2).trans (sortStable_ok _ c2 W (by omega) (by omega))⟩
    · cases h)
end
end Go.Vm
