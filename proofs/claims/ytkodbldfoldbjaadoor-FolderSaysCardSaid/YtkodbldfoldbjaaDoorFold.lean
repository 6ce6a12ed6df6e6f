/- Package fold: Check, First, Two, and the reference Two: what each returns. -/
import Derived.Test.YtkodbldfoldbjaaDoorPairs
import Derived.Test.YtkodbldfoldbjaaDoorOwn
import Derived.StillTailTactics
set_option linter.unusedSimpArgs false
set_option linter.unusedVariables false
namespace Go.Proofs.YtkodbldfoldbjaaDoor
open Go.RowKit

def kindFault (k : Int) : Int := if k < 1 ∨ 4 < k then 3 else 0
theorem foldCheck_any (k : Int) (w : World) :
    Calls Tryd.prog 57 #[.int .i64 k] w fun e w' => e = .returned (errV (kindFault k)) ∧ w = w' := by
  by_cases h1 : k < 1
  · have hr : kindFault k = 3 := by unfold kindFault; rw [if_pos (by omega)]
    rw [hr]
    have e1 : decide (k < 1) = true := by simpa using h1
    go_enter Tryd.func57, Tryd.ntmps57
    go_wp2
    go_ret
    exact ⟨rfl, rfl⟩
  · have e1 : decide (k < 1) = false := by simpa using h1
    by_cases h2 : 4 < k
    · have hr : kindFault k = 3 := by unfold kindFault; rw [if_pos (by omega)]
      rw [hr]
      go_enter Tryd.func57, Tryd.ntmps57
      go_wp2
      go_ret
      exact ⟨rfl, rfl⟩
    · have hr : kindFault k = 0 := by unfold kindFault; rw [if_neg (by omega)]
      rw [hr]
      go_enter Tryd.func57, Tryd.ntmps57
      go_wp2
      go_ret
      exact ⟨rfl, rfl⟩

def first (k v : Int) : Int := if k = 4 then 1 else v

def two (k a b : Int) : Int := if k = 2 then min a b else if k = 3 then max a b else wrap64 (a + b)
theorem two_any (k a b : Int) (w : World) :
    Calls Tryd.prog 76 #[.int .i64 k, .int .i64 a, .int .i64 b] w fun e w' => e = .returned (.int .i64 (two k a b)) ∧ w = w' := by
  by_cases h : k = 2
  · have hr : two k a b = min a b := if_pos h
    have e1 : (k == 2) = true := by simpa using h
    rw [hr]
    clear hr h
    go_enter Tryd.func76, Tryd.ntmps76
    go_wp2
    all_goals (go_ret; exact ⟨ret_i (by omega), rfl⟩)
  · by_cases h3 : k = 3
    · have hr : two k a b = max a b := by unfold two; rw [if_neg h, if_pos h3]
      have e1 : (k == 2) = false := by simpa using h
      have e2 : (k == 3) = true := by simpa using h3
      rw [hr]
      clear hr h h3
      go_enter Tryd.func76, Tryd.ntmps76
      go_wp2
      all_goals (go_ret; exact ⟨ret_i (by omega), rfl⟩)
    · have hr : two k a b = wrap64 (a + b) := by unfold two; rw [if_neg h, if_neg h3]
      have e1 : (k == 2) = false := by simpa using h
      have e2 : (k == 3) = false := by simpa using h3
      rw [hr]
      clear hr h h3
      go_enter Tryd.func76, Tryd.ntmps76
      go_wp2
      go_ret
      exact ⟨rfl, rfl⟩

/-- one pair more -/
def gstep (k : Int) (out : List Pr) (p : Pr) : List Pr := match out.getLast? with
  | some q => if q.1 = p.1 then out.dropLast ++ [(q.1, two k q.2 p.2)] else out ++ [p]
  | none => [p]
def groups (k : Int) (l : List Pr) : List Pr := l.foldl (gstep k) []
theorem groups_take_succ {k : Int} {l : List Pr} {i : Nat} {p : Pr} (h : l[i]? = some p) : groups k (l.take (i + 1)) = gstep k (groups k (l.take i)) p := by
  have hlt : i < l.length := get_lt h
  have hx : l[i] = p := (List.getElem?_eq_some_iff.1 h).2
  unfold groups
  rw [List.take_succ_eq_append_getElem hlt, List.foldl_append, hx]; rfl
theorem gstep_length (k : Int) (out : List Pr) (p : Pr) : (gstep k out p).length ≤ out.length + 1 := by
  unfold gstep
  split
  · rename_i q hq
    split
    · simp
    · simp
  · simp
theorem groups_length (k : Int) (l : List Pr) : (groups k l).length ≤ l.length := by
  have key : ∀ (l : List Pr) (o : List Pr), (l.foldl (gstep k) o).length ≤ o.length + l.length := by
    intro l
    induction l with
    | nil => intro o; simp
    | cons a l ih => intro o; have h1 := ih (gstep k o a); have h2 := gstep_length k o a; simp only [List.foldl_cons, List.length_cons]; omega
  have := key l []
  simpa [groups] using this


end Go.Proofs.YtkodbldfoldbjaaDoor
