/- Slices of pairs: those of a key lie in one; sorting and folding go by slices. -/
import Derived.Test.YtafogaopccajaaaDoorRiseLaw
import Derived.Test.YtafogaopccajaaaDoorErr
import Derived.Test.YtafogaopccajaaaDoorRows
set_option linter.unusedSimpArgs false
set_option linter.unusedVariables false
/- Groups of sorted pairs: in whichever order, and in whichever groups, they are the same. -/
namespace Go.Proofs.YtafogaopccajaaaDoor
open Go.RowKit

/-- pairs that are sorted, then folded -/
def grp (k : Int) (l : List Pr) : List Pr := groups k (srt l)
/-- one pair more, put where it belongs -/
def insG (k : Int) (x : Pr) : List Pr → List Pr
  | [] => [x]
  | a :: l => if klt a x = true then a :: insG k x l else if a.1 = x.1 then (a.1, two k a.2 x.2) :: l else x :: a :: l
def Incr (l : List Pr) : Prop := l.Pairwise fun a b => klt a b = true
theorem Incr.tail {a : Pr} {l : List Pr} (h : Incr (a :: l)) : Incr l := (List.pairwise_cons.1 h).2
theorem Incr.head {a : Pr} {l : List Pr} (h : Incr (a :: l)) : ∀ b ∈ l, klt a b = true := (List.pairwise_cons.1 h).1
theorem klt_self {a b : Pr} (h : a.1 = b.1) : klt a b = false := by unfold klt; rw [h]; exact bl_irrefl _
theorem klt_or {a b : Pr} : klt a b = true ∨ a.1 = b.1 ∨ klt b a = true := by
  rcases bl_tri a.1.toList b.1.toList with h | h | h
  · exact .inl h
  · exact .inr (.inl (tl_inj h))
  · exact .inr (.inr h)
theorem insG_nil (k : Int) (x : Pr) : insG k x [] = [x] := by unfold insG; rfl
theorem insG_lt {k : Int} {x a : Pr} {l : List Pr} (h : klt a x = true) : insG k x (a :: l) = a :: insG k x l := by conv => lhs; unfold insG; rw [if_pos h]
theorem insG_eq {k : Int} {x a : Pr} {l : List Pr} (h : a.1 = x.1) : insG k x (a :: l) = (a.1, two k a.2 x.2) :: l := by
  conv => lhs; unfold insG; rw [if_neg (by rw [klt_self h]; decide), if_pos h]
theorem insG_gt {k : Int} {x a : Pr} {l : List Pr} (h : klt x a = true) : insG k x (a :: l) = x :: a :: l := by
  conv => lhs; unfold insG; rw [if_neg (by rw [klt_asymm h]; decide), if_neg (fun e => by rw [klt_self e.symm] at h; cases h)]
/-- a pair of another value, but the same key, goes to the same place -/
theorem mem_insG {k : Int} {x y : Pr} : ∀ {l : List Pr}, y ∈ insG k x l → y.1 = x.1 ∨ ∃ z ∈ l, y.1 = z.1
  | [], h => by rw [insG_nil] at h; left; rw [List.mem_singleton.1 h]
  | a :: l, h => by
    rcases klt_or (a := a) (b := x) with e | e | e
    · rw [insG_lt e] at h
      rcases List.mem_cons.1 h with h | h
      · exact .inr ⟨a, List.mem_cons_self, by rw [h]⟩
      · rcases mem_insG h with h | ⟨z, hz, h⟩
        · exact .inl h
        · exact .inr ⟨z, List.mem_cons_of_mem _ hz, h⟩
    · rw [insG_eq e] at h
      rcases List.mem_cons.1 h with h | h
      · exact .inr ⟨a, List.mem_cons_self, by rw [h]⟩
      · exact .inr ⟨y, List.mem_cons_of_mem _ h, rfl⟩
    · rw [insG_gt e] at h
      rcases List.mem_cons.1 h with h | h
      · exact .inl (by rw [h])
      · exact .inr ⟨y, h, rfl⟩
theorem insG_incr {k : Int} {x : Pr} : ∀ {l : List Pr}, Incr l → Incr (insG k x l)
  | [], _ => by rw [insG_nil]; exact List.pairwise_singleton _ _
  | a :: l, h => by
    rcases klt_or (a := a) (b := x) with e | e | e
    · rw [insG_lt e]
      refine List.pairwise_cons.2 ⟨fun b hb => ?_, insG_incr h.tail⟩
      rcases mem_insG hb with h1 | ⟨z, hz, h1⟩
      · rw [klt_key (a := a) (b := b) (c := a) (d := x) rfl h1]; exact e
      · rw [klt_key (a := a) (b := b) (c := a) (d := z) rfl h1]; exact h.head z hz
    · rw [insG_eq e]
      refine List.pairwise_cons.2 ⟨fun b hb => ?_, h.tail⟩
      rw [klt_key (a := (a.1, two k a.2 x.2)) (b := b) (c := a) (d := b) rfl rfl]
      exact h.head b hb
    · rw [insG_gt e]
      refine List.pairwise_cons.2 ⟨fun b hb => ?_, h⟩
      rcases List.mem_cons.1 hb with h1 | h1
      · rw [h1]; exact e
      · exact klt_trans e (h.head b h1)
/-- in whichever order -/
theorem insG_comm (k : Int) (x y : Pr) : ∀ (l : List Pr), insG k x (insG k y l) = insG k y (insG k x l)
  | [] => by
    rw [insG_nil, insG_nil]
    rcases klt_or (a := x) (b := y) with e | e | e
    · rw [insG_gt e, insG_lt e, insG_nil]
    · rw [insG_eq e.symm, insG_eq e, two_comm, e]
    · rw [insG_lt e, insG_gt e, insG_nil]
  | a :: l => by
    have ih := insG_comm k x y l
    rcases klt_or (a := a) (b := x) with ex | ex | ex <;> rcases klt_or (a := a) (b := y) with ey | ey | ey
    · rw [insG_lt ey, insG_lt ex, insG_lt ex, insG_lt ey, ih]
    · rw [insG_eq ey, insG_lt ex, insG_eq ey]
      rw [insG_lt (a := (a.1, two k a.2 y.2)) (by rw [klt_key (a := (a.1, two k a.2 y.2)) (b := x) (c := a) (d := x) rfl rfl]; exact ex)]
    · rw [insG_gt ey, insG_lt ex, insG_gt ey]
      have hyx : klt y x = true := klt_trans ey ex
      rw [insG_lt hyx, insG_lt ex]
    · rw [insG_lt ey, insG_eq ex, insG_eq ex]
      rw [insG_lt (a := (a.1, two k a.2 x.2)) (by rw [klt_key (a := (a.1, two k a.2 x.2)) (b := y) (c := a) (d := y) rfl rfl]; exact ey)]
    · rw [insG_eq ey, insG_eq ex, insG_eq (a := (a.1, two k a.2 y.2)) ex, insG_eq (a := (a.1, two k a.2 x.2)) ey]
      dsimp only
      rw [← two_assoc, ← two_assoc, two_comm k y.2 x.2]
    · have hyx : klt y x = true := by rw [klt_key (a := y) (b := x) (c := y) (d := a) rfl ex.symm]; exact ey
      rw [insG_gt ey, insG_eq ex, insG_lt hyx, insG_eq ex]
      rw [insG_gt (a := (a.1, two k a.2 x.2)) (by rw [klt_key (a := y) (b := (a.1, two k a.2 x.2)) (c := y) (d := a) rfl rfl]; exact ey)]
    · have hxy : klt x y = true := klt_trans ex ey
      rw [insG_lt ey, insG_gt ex, insG_gt ex, insG_lt hxy, insG_lt ey]
    · have hxy : klt x y = true := by rw [klt_key (a := x) (b := y) (c := x) (d := a) rfl ey.symm]; exact ex
      rw [insG_eq ey, insG_gt ex, insG_lt hxy, insG_eq ey]
      rw [insG_gt (a := (a.1, two k a.2 y.2)) (by rw [klt_key (a := x) (b := (a.1, two k a.2 y.2)) (c := x) (d := a) rfl rfl]; exact ex)]
    · rcases klt_or (a := x) (b := y) with e | e | e
      · rw [insG_gt ey, insG_gt ex, insG_gt e, insG_lt e, insG_gt ey]
      · rw [insG_gt ey, insG_gt ex, insG_eq e.symm, insG_eq e, two_comm, e]
      · rw [insG_gt ey, insG_gt ex, insG_lt e, insG_gt ex, insG_gt e]
/-- the canonical form -/
def sumG (k : Int) (o l : List Pr) : List Pr := l.foldl (fun s x => insG k x s) o
theorem sumG_perm {k : Int} {l m : List Pr} (h : l.Perm m) : ∀ o, sumG k o l = sumG k o m := by
  induction h with
  | nil => intro o; rfl
  | cons x _ ih => intro o; exact ih _
  | swap x y l =>
    intro o
    show sumG k (insG k x (insG k y o)) l = sumG k (insG k y (insG k x o)) l
    rw [insG_comm]
  | trans _ _ ih1 ih2 => intro o; rw [ih1, ih2]
theorem sumG_append (k : Int) (o a b : List Pr) : sumG k o (a ++ b) = sumG k (sumG k o a) b := List.foldl_append ..
theorem sumG_incr {k : Int} : ∀ (l o : List Pr), Incr o → Incr (sumG k o l)
  | [], _, h => h
  | x :: l, _, h => sumG_incr l _ (insG_incr h)
theorem insG_end {k : Int} {x : Pr} : ∀ {l : List Pr}, (∀ a ∈ l, klt a x = true) → insG k x l = l ++ [x]
  | [], _ => by rw [insG_nil]; rfl
  | a :: l, h => by rw [insG_lt (h a List.mem_cons_self), insG_end fun b hb => h b (List.mem_cons_of_mem _ hb)]; rfl
theorem sumG_self {k : Int} : ∀ (l o : List Pr), Incr (o ++ l) → sumG k o l = o ++ l
  | [], o, _ => by rw [List.append_nil]; rfl
  | x :: l, o, h => by
    have h1 := (List.pairwise_append.1 h).2.2
    show sumG k (insG k x o) l = _
    rw [insG_end fun a ha => h1 a ha x List.mem_cons_self, sumG_self l (o ++ [x]) (by rw [List.append_assoc]; exact h), List.append_assoc]
    rfl
/-- a step at the end of what rises -/
theorem gstep_insG {k : Int} {x : Pr} {o : List Pr} (h : Incr o) (hx : ∀ a ∈ o, klt x a = false) : gstep k o x = insG k x o := by
  rcases list_end o with rfl | ⟨S, q, rfl⟩
  · rw [gstep_nil, insG_nil]
  · have hS : ∀ a ∈ S, klt a q = true := fun a ha => (List.pairwise_append.1 h).2.2 a ha q (List.mem_singleton.2 rfl)
    have hq := hx q (by simp)
    by_cases e : q.1 = x.1
    · rw [gstep_same e]
      have key : ∀ (S : List Pr), (∀ a ∈ S, klt a q = true) → insG k x (S ++ [q]) = S ++ [(q.1, two k q.2 x.2)] := by
        intro S
        induction S with
        | nil => intro _; exact insG_eq e
        | cons a S ih =>
          intro hS
          have ha : klt a x = true := by rw [klt_key (a := a) (b := x) (c := a) (d := q) rfl e.symm]; exact hS a List.mem_cons_self
          rw [List.cons_append, insG_lt ha, ih fun b hb => hS b (List.mem_cons_of_mem _ hb)]
          rfl
      rw [key S hS]
    · rw [gstep_other e]
      have hqx : klt q x = true := by
        rcases klt_or (a := q) (b := x) with h1 | h1 | h1
        · exact h1
        · exact absurd h1 e
        · rw [h1] at hq; cases hq
      rw [insG_end]
      intro a ha
      rcases List.mem_append.1 ha with ha | ha
      · exact klt_trans (hS a ha) hqx
      · rw [List.mem_singleton.1 ha]; exact hqx
theorem groups_sumG (k : Int) : ∀ (l : List Pr), Rise l → groups k l = sumG k [] l := by
  intro l
  induction l using rev_ind2 with
  | h0 => intro _; rfl
  | hs l p ih =>
    intro h
    obtain ⟨h1, _, h2⟩ := Rise.append.1 h
    rw [groups_snoc, sumG_append, ← ih h1]
    refine gstep_insG (groups_incr k l h1) fun a ha => ?_
    obtain ⟨y, hy, e⟩ := groups_of k l a ha
    rw [klt_key (a := p) (b := a) (c := p) (d := y) rfl e]
    exact h2 y hy p (by simp)
/-- in whichever order -/
theorem grp_eq (k : Int) (l : List Pr) : grp k l = sumG k [] l := by
  unfold grp
  rw [groups_sumG k _ (srt_rise l)]
  exact sumG_perm (srt_perm l) []
theorem grp_perm {k : Int} {l m : List Pr} (h : l.Perm m) : grp k l = grp k m := by rw [grp_eq, grp_eq]; exact sumG_perm h []
theorem grp_incr (k : Int) (l : List Pr) : Incr (grp k l) := by rw [grp_eq]; exact sumG_incr l [] List.Pairwise.nil
/-- in whichever groups -/
theorem grp_part (k : Int) (a b : List Pr) : grp k (grp k a ++ b) = grp k (a ++ b) := by
  rw [grp_eq, grp_eq k (a ++ b), sumG_append, sumG_append, sumG_self (grp k a) [] (grp_incr k a), grp_eq k a]
  rfl
theorem grp_parts (k : Int) (a b : List Pr) : grp k (grp k a ++ grp k b) = grp k (a ++ b) := by
  rw [grp_part, grp_perm List.perm_append_comm, grp_part, grp_perm List.perm_append_comm]
theorem grp_flat (k : Int) : ∀ (ls : List (List Pr)), grp k (ls.map (grp k)).flatten = grp k ls.flatten
  | [] => rfl
  | l :: ls => by
    rw [List.map_cons, List.flatten_cons, List.flatten_cons, grp_part]
    rw [grp_perm List.perm_append_comm, ← grp_part, grp_flat k ls, grp_part, grp_perm List.perm_append_comm]
end Go.Proofs.YtafogaopccajaaaDoor
/- Package pair: Sum and Slice: what each returns. -/
namespace Go.Proofs.YtafogaopccajaaaDoor
open Go.RowKit

/-- one byte more -/
def sumStep (h : Int) (c : UInt8) : Int := bits BinOp.xor IntKind.u32 h ((c.toNat : Int) % 4294967296) * 16777619 % 4294967296
def sumB (l : List UInt8) : Int := l.foldl sumStep 2166136261
theorem sumStep_bd (h : Int) (c : UInt8) : 0 ≤ sumStep h c ∧ sumStep h c < 4294967296 := by unfold sumStep; omega
theorem sumB_bd (l : List UInt8) : 0 ≤ sumB l ∧ sumB l < 4294967296 := by
  have key : ∀ (l : List UInt8) (h : Int), 0 ≤ h ∧ h < 4294967296 → 0 ≤ l.foldl sumStep h ∧ l.foldl sumStep h < 4294967296 := by
    intro l
    induction l with
    | nil => intro h hh; exact hh
    | cons a l ih => intro h _; exact ih _ (sumStep_bd h a)
  exact key l _ (by omega)
theorem sumB_snoc (s : ByteArray) (k : Nat) (h : k < s.size) : sumB (s.data.toList.take (k + 1)) = sumStep (sumB (s.data.toList.take k)) s[k] := by
  unfold sumB
  rw [List.take_succ_eq_append_getElem (by simpa using h), List.foldl_append]
  rfl
/-- the slice that a key lies in -/
def sliceB (s : ByteArray) (many : Int) : Int := sumB s.data.toList % max many 1
theorem sliceB_bd (s : ByteArray) (many : Int) : 0 ≤ sliceB s many ∧ sliceB s many < max many 1 := by
  unfold sliceB
  exact ⟨Int.emod_nonneg _ (by omega), Int.emod_lt_of_pos _ (by omega)⟩

set_option maxHeartbeats 400000 in
theorem Sum_any (s : ByteArray) (w : World) (hs : s.size ≤ maxLen) :
    Calls Tryd.prog 41 #[.string s] w fun e w' => e = .returned (.int .u32 (sumB s.data.toList)) ∧ w = w' := by
  unfold maxLen at hs
  go_enter Tryd.func41, Tryd.ntmps41
  go_wp2
  go_loop [3, 7] (fun h i => ∃ k : Nat, k ≤ s.size ∧ i = .int .i64 k ∧ h = .int .u32 (sumB (s.data.toList.take k))) (fun _ i => s.size - (intOf i).toNat)
  case atStart => exact ⟨0, by omega, rfl, rfl⟩
  case round =>
    obtain ⟨k, hk, rfl, rfl⟩ := hrel
    by_cases hlt : k < s.size
    · have hsn := sumB_snoc s k hlt
      have Hsn := hide hsn; clear hsn
      generalize sumB (s.data.toList.take k) = h at *
      go_wp2
      go_round
      case rel => exact ⟨k+1, by omega, by go_num, by rw [Hsn.out]; rfl⟩
      case measure => simp [intOf]; omega
    · go_wp2
      go_ret
      rw [List.take_of_length_le (by simp; omega)]
      exact ⟨rfl, rfl⟩

theorem Slice_any (s : ByteArray) (many : Int) (w : World) (hs : s.size ≤ maxLen) (hm : many ≤ 1000) :
    Calls Tryd.prog 23 #[.string s, .int .i64 many] w fun e w' => e = .returned (.int .i64 (sliceB s many)) ∧ w = w' := by
  have hb := sumB_bd s.data.toList
  have hr : sliceB s many = sumB s.data.toList % max many 1 := rfl
  have Hr := hide hr; clear hr
  go_enter Tryd.func23, Tryd.ntmps23
  go_wp2_with fail
  refine (Sum_any s _ hs).mono ?_
  rintro e w1 ⟨rfl, rfl⟩
  generalize sumB s.data.toList = hv at *
  go_wp2
  · go_ret
    refine ⟨ret_i ?_, rfl⟩
    have hm1 : max many 1 = 1 := by omega
    rw [Hr.out, hm1, Int.emod_one, IntWalk.wrap64_in 0 ⟨by decide, by decide⟩]
  · go_ret
    refine ⟨ret_i ?_, rfl⟩
    have hm1 : max many 1 = many := by omega
    have h1 := Int.emod_nonneg hv (show many ≠ 0 by omega)
    have h2 := Int.emod_lt_of_pos hv (show 0 < many by omega)
    rw [Hr.out, hm1, IntWalk.wrap64_in _ ⟨by omega, by omega⟩]
end Go.Proofs.YtafogaopccajaaaDoor
namespace Go.Proofs.YtafogaopccajaaaDoor
open Go.RowKit

/-- a test of the key alone -/
def ByKey (p : Pr → Bool) : Prop := ∀ a b : Pr, a.1 = b.1 → p a = p b
theorem filter_isK {p : Pr → Bool} (hp : ByKey p) (l : List Pr) (k : List UInt8) : (l.filter p).filter (isK k) = (l.filter (isK k)).filter p := by
  rw [List.filter_filter, List.filter_filter]
  congr 1
  funext a
  exact Bool.and_comm _ _
theorem srt_filter {p : Pr → Bool} (hp : ByKey p) (l : List Pr) : (srt l).filter p = srt (l.filter p) := by
  refine srt_of ((srt_rise l).sub List.filter_sublist) fun k => ?_
  rw [filter_isK hp, filter_isK hp, srt_same l k]
theorem insG_filter {p : Pr → Bool} (hp : ByKey p) {k : Int} {x : Pr} : ∀ (l : List Pr), Incr l → (insG k x l).filter p = if p x = true then insG k x (l.filter p) else l.filter p
  | [], _ => by
    rw [insG_nil]
    by_cases h : p x = true
    · rw [if_pos h, List.filter_cons_of_pos h, List.filter_nil, insG_nil]
    · rw [if_neg h, List.filter_cons_of_neg h]
  | a :: l, hi => by
    have ih := insG_filter hp (k := k) (x := x) l hi.tail
    rcases klt_or (a := a) (b := x) with e | e | e
    · rw [insG_lt e]
      by_cases ha : p a = true
      · rw [List.filter_cons_of_pos ha, List.filter_cons_of_pos ha, ih]
        by_cases hx : p x = true
        · rw [if_pos hx, if_pos hx, insG_lt e]
        · rw [if_neg hx, if_neg hx]
      · rw [List.filter_cons_of_neg ha, List.filter_cons_of_neg ha, ih]
    · have hpp := hp a x e
      have h2 : p (a.1, two k a.2 x.2) = p x := hp _ _ e
      rw [insG_eq e]
      by_cases hx : p x = true
      · rw [if_pos hx, List.filter_cons_of_pos (by rw [h2]; exact hx), List.filter_cons_of_pos (by rw [hpp]; exact hx), insG_eq e]
      · rw [if_neg hx, List.filter_cons_of_neg (by rw [h2]; exact hx), List.filter_cons_of_neg (by rw [hpp]; exact hx)]
    · rw [insG_gt e]
      by_cases hx : p x = true
      · rw [if_pos hx, List.filter_cons_of_pos hx]
        have hlt : ∀ b ∈ (a :: l).filter p, klt x b = true := by
          intro b hb
          rcases List.mem_cons.1 (List.mem_filter.1 hb).1 with h | h
          · rw [h]; exact e
          · exact klt_trans e (hi.head b h)
        generalize (a :: l).filter p = m at *
        rcases m with _ | ⟨b, m⟩
        · rw [insG_nil]
        · rw [insG_gt (hlt b List.mem_cons_self)]
      · rw [if_neg hx, List.filter_cons_of_neg hx]
theorem sumG_filter {p : Pr → Bool} (hp : ByKey p) {k : Int} : ∀ (l o : List Pr), Incr o → (sumG k o l).filter p = sumG k (o.filter p) (l.filter p)
  | [], _, _ => rfl
  | x :: l, o, ho => by
    show (sumG k (insG k x o) l).filter p = _
    rw [sumG_filter hp l _ (insG_incr ho), insG_filter hp o ho]
    by_cases hx : p x = true
    · rw [if_pos hx, List.filter_cons_of_pos hx]; rfl
    · rw [if_neg hx, List.filter_cons_of_neg hx]
theorem grp_filter {p : Pr → Bool} (hp : ByKey p) (k : Int) (l : List Pr) : (grp k l).filter p = grp k (l.filter p) := by
  rw [grp_eq, grp_eq, sumG_filter hp l [] List.Pairwise.nil]
  rfl
theorem grp_grp (k : Int) (l : List Pr) : grp k (grp k l) = grp k l := by
  have := grp_part k l []
  rwa [List.append_nil, List.append_nil] at this
/-- those of slice n, of so many -/
def inSlice (many : Int) (n : Nat) (p : Pr) : Bool := decide (sliceB p.1 many = n)
theorem inSlice_key (many : Int) (n : Nat) : ByKey (inSlice many n) := fun a b h => by unfold inSlice; rw [h]
/-- a job's slices of pairs -/
def cutP (fold : Int) (early : Bool) (many : Nat) (l : List Pr) : List (List Pr) :=
  (List.range many).map fun n => if early = true then groups fold ((srt l).filter (inSlice many n)) else (srt l).filter (inSlice many n)
theorem cutP_get {fold : Int} {early : Bool} {many n : Nat} {l : List Pr} (h : n < many) : (cutP fold early many l)[n]? = some (if early = true then grp fold (l.filter (inSlice many n)) else srt (l.filter (inSlice many n))) := by
  unfold cutP
  rw [List.getElem?_map, List.getElem?_range h]
  simp only [Option.map_some, srt_filter (inSlice_key _ _)]
  rfl
end Go.Proofs.YtafogaopccajaaaDoor
