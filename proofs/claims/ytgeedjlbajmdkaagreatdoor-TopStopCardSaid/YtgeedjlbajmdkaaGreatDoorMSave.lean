/- The mapper: At, Save, Load of what was saved, New of what may not be. -/
import Derived.Test.YtgeedjlbajmdkaaGreatDoorMRun
import Derived.Test.YtgeedjlbajmdkaaGreatDoorExpr11
import Derived.Test.YtgeedjlbajmdkaaGreatDoorFolder2
import Derived.Test.YtgeedjlbajmdkaaGreatDoorMSlices
import Derived.Test.YtgeedjlbajmdkaaGreatDoorFolder
import Derived.Test.YtgeedjlbajmdkaaGreatDoorJobCheck2
set_option linter.unusedSimpArgs false
set_option linter.unusedVariables false
/- What a mapper makes: short keys, small numbers (plain). -/
namespace Go.Proofs.YtgeedjlbajmdkaaGreatDoor
open Go.RowKit

theorem intE_bd {line it : ByteArray} {ws : List ByteArray} {each : Bool} (hl : line.size ≤ 1000) (hi : it.size ≤ 1000) (hw : ∀ x ∈ ws, x.size ≤ 1000) (hws : ws.length ≤ 1000) : ∀ e : ExprV, shE e false each = true → e.nodes ≤ 1000 → -9223372036854775808 ≤ intE e line it ws ∧ intE e line it ws ≤ 9223372036854775807
  | .mk k n s a, h, hn => by
    obtain ⟨p1, p2, p3, p4, p5, p6⟩ := shE_parts h
    rw [intE]
    unfold intK
    split
    · rename_i h7
      subst h7
      unfold nOk at p2
      rw [if_neg (by omega), if_neg (by omega), if_pos rfl] at p2
      simp only [Bool.and_eq_true, decide_eq_true_eq] at p2
      omega
    · split
      · rename_i h8
        subst h8
        match a, p5 with
        | [x], _ =>
          have hx : shE x true each = true := by
            simp only [kidsOf, show (8 : Int) ≠ 5 by decide, if_false, or_true, if_true, shL, Bool.and_eq_true] at p6
            exact p6.1
          have h1 := strE_le hl hi hw x hx
          have h2 : x.nodes ≤ 1000 := by
            simp only [ExprV.nodes, ExprV.nodesL] at hn
            omega
          have h3 := Nat.mul_le_mul_left 1000 h2
          simp only [strL, List.getD_cons_zero]
          omega
      · split
        · omega
        · split
          · rw [IntKind.wrap_i64]
            omega
          · omega
theorem pairsR_ok {r : RuleV} (hok : RuleOk r) (kind : Int) (line : ByteArray) (hl : line.size ≤ 500) : ∀ p ∈ pairsR r kind line, p.1.size ≤ 20 ∧ -9223372036854775808 ≤ p.2 ∧ p.2 ≤ 9223372036854775807 := by
  intro p hp
  unfold pairsR at hp
  obtain ⟨it, hit, hm⟩ := List.mem_filterMap.1 hp
  have hwl := words_line hl
  have his : it.size ≤ 1000 := by
    unfold itsR at hit
    split at hit
    · exact hwl.2 it hit
    · rw [List.mem_singleton.1 hit]; decide
  unfold madeR at hm
  split at hm
  · obtain rfl := Option.some.inj hm
    unfold pairR
    refine ⟨?_, ?_⟩
    · show (cut20 _).size ≤ 20
      unfold cut20
      rw [ByteArray.size_extract]
      omega
    · have hv := intE_bd (line := line) (it := it) (ws := wordsB line) (each := r.each) (by omega) his hwl.2 (by omega) r.val hok.val.2.2 (by have := hok.val.1; omega)
      show -9223372036854775808 ≤ first kind _ ∧ first kind _ ≤ 9223372036854775807
      unfold first
      split
      · omega
      · exact hv
  · cases hm
theorem pairsJ_ok {rs : List RuleV} (hok : ∀ r ∈ rs, RuleOk r) (kind : Int) (line : ByteArray) (hl : line.size ≤ 500) : ∀ p ∈ pairsJ rs kind line, p.1.size ≤ 20 ∧ -9223372036854775808 ≤ p.2 ∧ p.2 ≤ 9223372036854775807 := by
  intro p hp
  unfold pairsJ at hp
  obtain ⟨r, hr, hp⟩ := List.mem_flatMap.1 hp
  exact pairsR_ok (hok r hr) kind line hl p hp
theorem madeL_ok {rs : List RuleV} (hok : ∀ r ∈ rs, RuleOk r) (kind : Int) {lines : List ByteArray} (hl : ∀ l ∈ lines, l.size ≤ 500) : ∀ p ∈ madeL rs kind lines, p.1.size ≤ 20 ∧ -9223372036854775808 ≤ p.2 ∧ p.2 ≤ 9223372036854775807 := by
  intro p hp
  unfold madeL at hp
  obtain ⟨x, hx, hp⟩ := List.mem_flatMap.1 hp
  exact pairsJ_ok hok kind x (hl x hx) p hp
end Go.Proofs.YtgeedjlbajmdkaaGreatDoor
/- The mapper: a run as a value that lies in blocks of S: New, Step, Slices. -/
namespace Go.Proofs.YtgeedjlbajmdkaaGreatDoor
open Go.RowKit

def MRunV (w : World) (B : Nat) (ro : Option Addr) (rc : Nat) (rs : List RuleR) (fold slices : Int) (early : Bool) (lines : List ByteArray) (n : Nat) (S : Nat → Prop) (v : Value) : Prop :=
  ∃ g la lc va, v = .pointer (some ⟨g, 0, none⟩) ∧ MRunAt w B g ro rc rs fold slices early lines n la lc va ∧ S g ∧ (∀ q, va.ownBlock = some q → S q) ∧ ∀ b o, la = some ⟨b, o, none⟩ → S b
section
variable {w w' : World} {B : Nat} {ro : Option Addr} {rc : Nat} {rs : List RuleR} {fold slices : Int} {early : Bool} {lines : List ByteArray} {n : Nat} {S T : Nat → Prop} {v : Value}
theorem MRunV.ptr (h : MRunV w B ro rc rs fold slices early lines n S v) : ∃ g, v = .pointer (some ⟨g, 0, none⟩) := by
  obtain ⟨g, _, _, _, e, _⟩ := h
  exact ⟨g, e⟩
theorem MRunV.le (h : MRunV w B ro rc rs fold slices early lines n S v) : n ≤ lines.length := by
  obtain ⟨_, _, _, _, _, h1, _⟩ := h
  exact h1.at_le
theorem MRunV.more (h : MRunV w B ro rc rs fold slices early lines n S v) (hs : ∀ q, S q → T q) : MRunV w B ro rc rs fold slices early lines n T v := by
  obtain ⟨g, la, lc, va, e, h1, h2, h3, h4⟩ := h
  exact ⟨g, la, lc, va, e, h1, hs g h2, fun q e => hs q (h3 q e), fun b o e => hs b (h4 b o e)⟩
theorem MRunAt.kept {g : Nat} {la : Option Addr} {lc : Nat} {va : Value} (h : MRunAt w B g ro rc rs fold slices early lines n la lc va) (k : KeptBut T w w') (hg : ¬ T g) (hv : ∀ q, va.ownBlock = some q → ¬ T q) (hl : ∀ b o, la = some ⟨b, o, none⟩ → ¬ T b) : MRunAt w' B g ro rc rs fold slices early lines n la lc va :=
  ⟨h.bk.kept k hg, h.lo, h.sl.kept k hl, k.own h.own hv, ⟨h.apart.1, fun b o e => ⟨⟨(h.apart.2 b o e).1.1, Nat.lt_of_lt_of_le (h.apart.2 b o e).1.2 k.size⟩, (h.apart.2 b o e).2⟩⟩, h.at_le⟩
theorem MRunV.kept (h : MRunV w B ro rc rs fold slices early lines n S v) (k : KeptBut T w w') (hs : ∀ q, S q → ¬ T q) : MRunV w' B ro rc rs fold slices early lines n S v := by
  obtain ⟨g, la, lc, va, e, h1, h2, h3, h4⟩ := h
  exact ⟨g, la, lc, va, e, h1.kept k (hs g h2) (fun q e => hs q (h3 q e)) (fun b o e => hs b (h4 b o e)), h2, h3, h4⟩
theorem MRunV.later (h : MRunV w B ro rc rs fold slices early lines n S v) (hb : Below w.heap.size w w') : MRunV w' B ro rc rs fold slices early lines n S v := by
  obtain ⟨g, la, lc, va, e, h1, h2, h3, h4⟩ := h
  exact ⟨g, la, lc, va, e, h1.later hb, h2, h3, h4⟩
end
theorem MNew_run (ro : Option Addr) (rc : Nat) (rs : List RuleR) (fold slices : Int) (early : Bool) (d : Nat) (lo : Option Addr) (lc : Nat) (lines : List ByteArray) (w : World) (hj : JobAt w ro rs d) (hl : rs.length ≤ maxLen) (hs : Sl 1 encS w lo lines) (hn : lo = none → lc = 0) (hok : jobF (rs.map RuleR.v) fold slices = 0) (h60 : lines.length ≤ 60) :
    Calls Tryz.prog 21 #[.agg #[.slice ro rs.length rc, .int .i64 fold, .bool early, .int .i64 slices], .slice lo lines.length lc] w fun e w' => (∃ v, e = .returned (.tuple #[v, .nilIface]) ∧ MRunV w' w.heap.size ro rc rs fold slices early lines 0 (fun q => w.heap.size ≤ q ∧ q < w'.heap.size) v) ∧ Below w.heap.size w w' := by
  refine (MNew_lo ro rc rs fold slices early d lo lc lines w hj hl (by omega) hs hn hok h60).mono ?_
  rintro e w' ⟨⟨g, la, lc', rfl, h, hlo⟩, hb⟩
  exact ⟨⟨_, rfl, g, la, lc', _, rfl, h, ⟨h.lo, h.bk.lt⟩, fun q e => by simp [Value.ownBlock] at e, fun b o e => ⟨hlo b o e, (h.apart.2 b o e).1.2⟩⟩, hb⟩
theorem MStep_run {B : Nat} {ro : Option Addr} {rc : Nat} {rs : List RuleR} {fold slices : Int} {early : Bool} {lines : List ByteArray} {n : Nat} {S : Nat → Prop} {v : Value} (d : Nat) (many : Int) (w : World) (hB : B ≤ w.heap.size) (hg : ∀ w', Below B w w' → GM w') (hj : ∀ w', Below B w w' → JobAt w' ro rs d) (hok : JobOk rs fold slices) (h : MRunV w B ro rc rs fold slices early lines n S v) (hli : ∀ l ∈ lines, l.size ≤ 500) (hll : lines.length ≤ 1000) (hmany : many ≤ 9223372036854775807) :
    Calls Tryz.prog 22 #[v, .int .i64 many] w fun e w' => (e = .returned (.bool (decide (min (n + many.toNat) lines.length = lines.length))) ∧ MRunV w' B ro rc rs fold slices early lines (min (n + many.toNat) lines.length) (fun q => S q ∨ w.heap.size ≤ q) v) ∧ KeptBut S w w' := by
  obtain ⟨g, la, lc, va, rfl, h1, h2, h3, h4⟩ := h
  refine (MStep_any d many w hB hg hj hok h1 hli hll hmany).mono ?_
  rintro e w' ⟨va', ⟨rfl, k1, k2⟩, k3⟩
  exact ⟨⟨rfl, g, la, lc, va', rfl, k1, .inl h2, fun q e => (k2 q e).imp (h3 q) id, fun b o e => .inl (h4 b o e)⟩, k3.mono fun q hq => hq.elim (fun e => e ▸ h2) (h3 q)⟩
theorem MSlices_run {B : Nat} {ro : Option Addr} {rc : Nat} {rs : List RuleR} {fold : Int} {many : Nat} {early : Bool} {lines : List ByteArray} {n : Nat} {S : Nat → Prop} {v : Value} (w : World) (h : MRunV w B ro rc rs fold many early lines n S v) (hok : JobOk rs fold many) (hli : ∀ l ∈ lines, l.size ≤ 500) (hll : lines.length ≤ 1000) :
    Calls Tryz.prog 28 #[v] w fun e w' => ∃ ob vs, e = .returned (.slice (some ⟨ob, 0, none⟩) many many) ∧ Rws w' w.heap.size ob vs (cutP fold early many (madeL (rs.map RuleR.v) fold (lines.take n))) ∧ Below w.heap.size w w' := by
  obtain ⟨g, la, lc, va, rfl, h1, h2, h3, h4⟩ := h
  have hm := hok.slices
  have h5 := madeL_len (rs.map RuleR.v) fold (by rw [List.length_map]; exact hok.many.2) (lines.take n) (fun l hl => hli l (List.mem_of_mem_take hl))
  rw [List.length_take] at h5
  refine MSlices_any w h1 (by omega) (by omega) fun p hp => ?_
  have := (madeL_ok (rs := rs.map RuleR.v) (by intro r hr; obtain ⟨x, hx, rfl⟩ := List.mem_map.1 hr; exact hok.ok x hx) fold (lines := lines.take n) (fun l hl => hli l (List.mem_of_mem_take hl)) p hp).1
  unfold maxLen
  omega
end Go.Proofs.YtgeedjlbajmdkaaGreatDoor
namespace Go.Proofs.YtgeedjlbajmdkaaGreatDoor
open Go.RowKit

theorem MAt_run {B : Nat} {ro : Option Addr} {rc : Nat} {rs : List RuleR} {fold slices : Int} {early : Bool} {lines : List ByteArray} {n : Nat} {S : Nat → Prop} {v : Value} (w : World) (h : MRunV w B ro rc rs fold slices early lines n S v) :
    Calls Tryz.prog 26 #[v] w fun e w' => e = .returned (.int .i64 (n : Int)) ∧ w = w' := by
  obtain ⟨g, la, lc, va, rfl, h1, _⟩ := h
  have c5 := h1.bk.get (j := 5) rfl
  clear h1
  go_enter Tryz.func26, Tryz.ntmps26
  go_wp2
  go_ret
  exact ⟨rfl, rfl⟩
set_option maxRecDepth 100000 in
set_option maxHeartbeats 1000000 in
theorem MSave_any {base g : Nat} {ro : Option Addr} {rc : Nat} {rs : List RuleR} {fold slices : Int} {early : Bool} {lines : List ByteArray} {n : Nat} {la : Option Addr} {lc : Nat} {va : Value} (w : World) (hg : GT w) (h : MRunAt w base g ro rc rs fold slices early lines n la lc va) (hok : okP (madeL (rs.map RuleR.v) fold (lines.take n))) (hn : n ≤ 1000000) :
    Calls Tryz.prog 31 #[.pointer (some ⟨g, 0, none⟩)] w fun e w' => e = .returned (.string (tx (saveP n (madeL (rs.map RuleR.v) fold (lines.take n))))) ∧ Below w.heap.size w w' := by
  have hown := h.own
  have c2 := h.bk.get (j := 5) rfl
  have c3 := h.bk.get (j := 6) rfl
  clear h
  generalize madeL (rs.map RuleR.v) fold (lines.take n) = out at *
  obtain ⟨oa, oc, rfl⟩ := id hown.1
  have HI := hide fun w' (hb : Below w.heap.size w w') => Itoa_any (n : Int) w' (hg.later hb (Nat.le_refl _)) (by omega) (by omega)
  have HT := hide fun w' (hb : Below w.heap.size w w') => Text_any oa oc out w' (hg.later hb (Nat.le_refl _)) hok ((hown.sl encP_len).later hb (Nat.le_refl _))
  have k2 := cell_regrown c2
  have k3 := cell_regrown c3
  have HE : Hid (((tx (Lib.itoa (n : Int)) ++ ⟨#[10]⟩) ++ tx (textP out) : ByteArray) = tx (saveP n out)) := by
    apply tl_inj
    rw [tl, tl, tx_list]
    simp [tx, ByteArray.data_append, saveP]
  have z1 : (tx (Lib.itoa (n : Int))).size ≤ 20 := by rw [tx_size]; exact itoa_len (by omega) (by omega)
  have z2 : (tx (textP out)).size ≤ 10004300000 := by rw [tx_size]; have := hok.take out.length; rwa [List.take_length] at this
  generalize tx (Lib.itoa (n : Int)) = D at *
  generalize tx (textP out) = T at *
  have n1 : ¬ 9223372036854775807 < D.size + 1 := by omega
  have n2 : ¬ 9223372036854775807 < D.size + 1 + T.size := by omega
  clear hown hok hg z1 z2
  go_enter Tryz.func31, Tryz.ntmps31
  go_upto_region 1 with (fail)
  refine wp_region_quiet_below (by kernel_rfl) (by kernel_rfl) ?_
  repeat (go_big_quiet_step (first
    | (go_at_call 42; exact Calls.regrown_of (HI.out _ (below_regrown _ _ _)))
    | (go_at_call 76; exact Calls.regrown_of (HT.out _ (below_regrown _ _ _)))))
  refine wpQuiet_nil ?_
  intro _ hw'
  obtain ⟨⟨dq, osq⟩, hw''⟩ := hw'
  subst hw''
  go_wp2
  go_ret
  exact ⟨by rw [← HE.out]; rfl, below_regrown w dq osq⟩
theorem MSave_run {B : Nat} {ro : Option Addr} {rc : Nat} {rs : List RuleR} {fold slices : Int} {early : Bool} {lines : List ByteArray} {n : Nat} {S : Nat → Prop} {v : Value} (w : World) (hg : GT w) (h : MRunV w B ro rc rs fold slices early lines n S v) (hok : okP (madeL (rs.map RuleR.v) fold (lines.take n))) (hll : lines.length ≤ 1000000) :
    Calls Tryz.prog 31 #[v] w fun e w' => e = .returned (.string (tx (saveP n (madeL (rs.map RuleR.v) fold (lines.take n))))) ∧ Below w.heap.size w w' := by
  obtain ⟨g, la, lc, va, rfl, h1, h2, h3, h4⟩ := h
  exact MSave_any w hg h1 hok (Nat.le_trans h1.at_le hll)
theorem mload_end {w W : World} {B Bp g m n : Nat} {ro : Option Addr} {rc : Nat} {rs : List RuleR} {fold slices : Int} {early : Bool} {lines : List ByteArray} {la : Option Addr} {lc : Nat} {va : Value} {O : List Pr} {pa : Option Addr} {pc : Nat} (h : MRunAt w B g ro rc rs fold slices early lines m la lc va) (hb : Below w.heap.size w W) (hB : B ≤ w.heap.size) (hn : n ≤ lines.length) (ho : Own 2 encP 101 W Bp (.slice pa O.length pc) O) (hBp : w.heap.size ≤ Bp) (hO : O = madeL (rs.map RuleR.v) fold (lines.take n)) :
    MRunAt ((W.setCell ⟨g, 5, none⟩ (.int .i64 (n : Int))).setCell ⟨g, 6, none⟩ (.slice pa O.length pc)) B g ro rc rs fold slices early lines n la lc (.slice pa O.length pc) ∧ (∀ q, (Value.slice pa O.length pc).ownBlock = some q → w.heap.size ≤ q) ∧ KeptBut (fun q => q = g) w ((W.setCell ⟨g, 5, none⟩ (.int .i64 (n : Int))).setCell ⟨g, 6, none⟩ (.slice pa O.length pc)) := by
  have hgw := h.bk.lt
  have hlt : ∀ q, (Value.slice pa O.length pc).ownBlock = some q → w.heap.size ≤ q := fun q e => Nat.le_trans hBp (ho.lt q e).1
  have hne : (Value.slice pa O.length pc).ownBlock ≠ some g := fun e => by have := hlt g e; omega
  have hbk := h.bk.later hb
  have h2 := hbk.set (k := 5) (u := .int .i64 (m : Int)) (.int .i64 (n : Int)) rfl
  have h3 := h2.set (k := 6) (u := va) (.slice pa O.length pc) rfl
  have hk1 : KeptBut (fun q => q = g) W ((W.setCell ⟨g, 5, none⟩ (.int .i64 (n : Int))).setCell ⟨g, 6, none⟩ (.slice pa O.length pc)) :=
    ((KeptBut.refl (fun q => q = g) W).setCell (p := ⟨g, 5, none⟩) rfl _).setCell (p := ⟨g, 6, none⟩) rfl _
  refine ⟨⟨h3, h.lo, (h.sl.later hb (Nat.le_refl _)).kept hk1 (fun c o e => (h.apart.2 c o e).1.1), ?_, ⟨hne, fun c o e => ⟨⟨(h.apart.2 c o e).1.1, ?_⟩, fun e2 => ?_⟩⟩, hn⟩, hlt, (KeptBut.of_below hb (Nat.le_refl _)).trans hk1⟩
  · rw [← hO]
    exact ((ho.base_le (Nat.le_trans hB hBp)).setOther hne _).setOther hne _
  · have h4 := (h.apart.2 c o e).1.2
    have h5 := hb.size
    have h6 := hk1.size
    omega
  · have h4 := hlt c e2
    have h5 := (h.apart.2 c o e).1.2
    omega
set_option maxRecDepth 100000 in
set_option maxHeartbeats 4000000 in
theorem MLoad_any {B g m n : Nat} {ro : Option Addr} {rc : Nat} {rs : List RuleR} {fold slices : Int} {early : Bool} {lines : List ByteArray} {la : Option Addr} {lc : Nat} {va : Value} (w : World) (hg : GW w) (hB : B ≤ w.heap.size) (h : MRunAt w B g ro rc rs fold slices early lines m la lc va) (hn : n ≤ lines.length) (hL : lines.length ≤ 1000000) (O : List Pr) (hO : O = madeL (rs.map RuleR.v) fold (lines.take n)) (hok : okP O) (hs : (saveP n O).length ≤ 10000000) :
    Calls Tryz.prog 30 #[.pointer (some ⟨g, 0, none⟩), .string (tx (saveP n O))] w fun e w' => (e = .returned (.bool true) ∧ ∃ va', MRunAt w' B g ro rc rs fold slices early lines n la lc va' ∧ ∀ q, va'.ownBlock = some q → w.heap.size ≤ q) ∧ KeptBut (fun q => q = g) w w' := by
  have HH := hide h
  have HO := hide hO
  have HC := hide (Cut_any (tx (saveP n O)) 10 w hg.gm (by rw [tx_size]; exact hs))
  rw [tx_list, save_cut] at HC
  rw [save_len] at hs
  have HA := hide fun w' (hb : Below w.heap.size w w') => Atoi_text n w' (hg.later hb (Nat.le_refl _)) (by omega)
  have HI := hide fun w' (hb : Below w.heap.size w w') => Itoa_any (n : Int) w' (hg.later hb (Nat.le_refl _)) (by omega) (by omega)
  have HP := hide fun w' (hb : Below w.heap.size w w') => Parse_text O w' (hg.later hb (Nat.le_refl _)) hok (by omega)
  have HBASE := hide hB
  clear hg h hok hs hB hO
  generalize tx (saveP n O) = SV at *
  generalize tx (Lib.itoa (n : Int)) = D at *
  generalize tx (textP O) = TX at *
  have hdd := beqq D
  go_enter Tryz.func30, Tryz.ntmps30
  go_wp2_with fail
  refine HC.out.mono ?_
  rintro e w1 ⟨rfl, b1⟩
  have HB := hide b1
  clear b1 HC
  go_wp2_with fail
  refine (HA.out _ HB.out).mono ?_
  rintro e w2 ⟨rfl, b2⟩
  replace HB := hide (HB.out.trans (b2.mono HB.out.size))
  clear b2 HA
  go_wp2_with fail
  have hbs2 := HB.out.size
  refine (HP.out _ HB.out).mono ?_
  rintro e w3 ⟨⟨pa, pc, rfl, po⟩, b3⟩
  replace HB := hide (HB.out.trans (b3.mono HB.out.size))
  have HPO := hide po
  have HBS : Hid (w.heap.size ≤ w2.heap.size) := hbs2
  clear b3 HP po hbs2
  have e1 : decide ((n : Int) < 0) = false := by simp
  have e2 : decide ((lines.length : Int) < (n : Int)) = false := by simp; omega
  have e2' : decide (lines.length < n) = false := by simp; omega
  go_wp2_with fail
  refine (HI.out _ HB.out).mono ?_
  rintro e w4 ⟨rfl, b4⟩
  replace HB := hide (HB.out.trans (b4.mono HB.out.size))
  replace HPO := hide (HPO.out.later b4)
  clear b4 HI
  have hbk := HH.out.bk.later HB.out
  have c4 := hbk.get (j := 4) rfl
  have c5 := hbk.get (j := 5) rfl
  have c6 := hbk.get (j := 6) rfl
  have z5 := hbk.fz 5
  have z6 := hbk.fz 6
  have HFIN := hide (mload_end HH.out HB.out HBASE.out hn HPO.out HBS.out HO.out)
  clear hbk
  go_wp2
  go_ret
  exact ⟨⟨rfl, _, HFIN.out.1, HFIN.out.2.1⟩, HFIN.out.2.2⟩
theorem MLoad_run {B m n : Nat} {ro : Option Addr} {rc : Nat} {rs : List RuleR} {fold slices : Int} {early : Bool} {lines : List ByteArray} {S : Nat → Prop} {v : Value} (w : World) (hg : GW w) (hB : B ≤ w.heap.size) (h : MRunV w B ro rc rs fold slices early lines m S v) (hn : n ≤ lines.length) (hL : lines.length ≤ 1000000) (hok : okP (madeL (rs.map RuleR.v) fold (lines.take n))) (hs : (textP (madeL (rs.map RuleR.v) fold (lines.take n))).length ≤ 9000000) :
    Calls Tryz.prog 30 #[v, .string (tx (saveP n (madeL (rs.map RuleR.v) fold (lines.take n))))] w fun e w' => (e = .returned (.bool true) ∧ MRunV w' B ro rc rs fold slices early lines n (fun q => S q ∨ w.heap.size ≤ q) v) ∧ KeptBut S w w' := by
  obtain ⟨g, la, lc, va, rfl, h1, h2, h3, h4⟩ := h
  have hl : (Lib.itoa (n : Int)).length ≤ 20 := itoa_len (by omega) (by omega)
  refine (MLoad_any w hg hB h1 hn hL _ rfl hok (by rw [save_len]; omega)).mono ?_
  rintro e w' ⟨⟨rfl, va', k1, k2⟩, k3⟩
  exact ⟨⟨rfl, g, la, lc, va', rfl, k1, .inl h2, fun q e => .inr (k2 q e), fun b o e => .inl (h4 b o e)⟩, k3.mono fun q e => e ▸ h2⟩
set_option maxRecDepth 100000 in
set_option maxHeartbeats 2000000 in
theorem MNew_fault (ro : Option Addr) (rc : Nat) (rs : List RuleR) (fold slices : Int) (early : Bool) (lo : Option Addr) (lc : Nat) (lines : List ByteArray) (w : World) (hs : Sl 15 encRule w ro rs) (hr : ∀ r ∈ rs, ∃ d, RuleAt w d r) (hl : rs.length ≤ maxLen) (hll : lines.length ≤ maxLen) (hf : jobF (rs.map RuleR.v) fold slices ≠ 0 ∨ 60 < lines.length) :
    Calls Tryz.prog 21 #[.agg #[.slice ro rs.length rc, .int .i64 fold, .bool early, .int .i64 slices], .slice lo lines.length lc] w fun e w' => e = .returned (.tuple #[.pointer none, errV (if jobF (rs.map RuleR.v) fold slices ≠ 0 then jobF (rs.map RuleR.v) fold slices else 2)]) ∧ Below w.heap.size w w' := by
  obtain ⟨W1, hW1⟩ : ∃ W, W = w.alloc (.cells #[.slice ro rs.length rc, .int .i64 fold, .bool early, .int .i64 slices] 24) := ⟨_, rfl⟩
  have hb1 : Below w.heap.size w W1 := by rw [hW1]; exact (Below.refl _ _).alloc (Nat.le_refl _) _
  have hbj : Bk W1 w.heap.size [.slice ro rs.length rc, .int .i64 fold, .bool early, .int .i64 slices] := by rw [hW1]; exact Bk.new rfl
  have HCK := hide (jobCheck_any ro rc rs fold slices early W1 hl (hs.later hb1 (Nat.le_refl _)) (fun r hr' => by obtain ⟨d, h⟩ := hr r hr'; exact ⟨d, h.later hb1 (Nat.le_refl _)⟩))
  have HB := hide hb1
  have HW1 := hide hW1
  have j0 := hbj.get (j := 0) rfl
  have j1 := hbj.get (j := 1) rfl
  have j2 := hbj.get (j := 2) rfl
  have j3 := hbj.get (j := 3) rfl
  obtain ⟨jf, hjf⟩ : ∃ jf, jobF (rs.map RuleR.v) fold slices = jf := ⟨_, rfl⟩
  rw [hjf] at HCK hf ⊢
  obtain ⟨ef, hef⟩ : ∃ ef : Int, (if jf ≠ 0 then jf else 2) = ef := ⟨_, rfl⟩
  rw [hef]
  have HEF := hide hef
  clear hef
  unfold maxLen at hll
  clear hb1 hbj hW1 hs hr hl hjf
  go_enter Tryz.func21, Tryz.ntmps21
  go_upto_region 1 with (fail)
  rw [← HW1.out]
  clear HW1
  go_wp2_with fail
  refine HCK.out.mono ?_
  rintro e w2 ⟨rfl, b2⟩
  replace HB := hide (HB.out.trans (b2.mono HB.out.size))
  by_cases h0 : jf = 0
  · have h60 : 60 < lines.length := hf.resolve_left (fun h => h h0)
    have HE2 : Hid (ef = 2) := by show _ = _; rw [← HEF.out, h0]; rfl
    subst h0
    rw [errV_zero]
    clear HEF hf
    have g1 : decide ((60 : Int) < (lines.length : Int)) = true := by simp; omega
    go_wp2
    go_ret2
    exact ⟨by rw [HE2.out]; rfl, HB.out⟩
  · have HE2 : Hid (ef = jf) := by show _ = _; rw [← HEF.out, if_pos h0]
    obtain ⟨te, ve, hte⟩ : ∃ te ve, errV jf = .iface te ve := ⟨_, _, errV_pos h0⟩
    rw [hte]
    have HTE := hide hte
    clear hf h0 hte HEF
    go_wp2
    go_ret2
    exact ⟨by rw [HE2.out, HTE.out]; rfl, HB.out⟩
end Go.Proofs.YtgeedjlbajmdkaaGreatDoor
