/- Package bench: Free, Room, Runs, Size. -/
import Derived.Test.YtidhjpjeehoglaaBench2
namespace Go.Proofs.Ytidhjpjeehoglaa
open Go.RowKit

theorem BT.lts {w : World} {base bb lb cap n : Nat} {rs : List Nat} {T : List (List SlotV)} (h : BT w base bb lb cap n rs T) : bb < w.heap.size ∧ lb < w.heap.size ∧ ∀ (i : Nat) r, rs[i]? = some r → r < w.heap.size :=
  ⟨World.block_lt_of_cell? w _ h.c0, (h.ol.lt lb rfl).2, fun _ _ hr => (h.lt0 hr).1⟩
/-- stores into blocks that are new -/
theorem BT.setNew {w : World} {base bb lb cap n B : Nat} {rs : List Nat} {T : List (List SlotV)} (h : BT w base bb lb cap n rs T) {p : Addr} (hb : bb < B ∧ lb < B ∧ ∀ (i : Nat) r, rs[i]? = some r → r < B) (hp : B ≤ p.block) (u : Value) : BT (w.setCell p u) base bb lb cap n rs T :=
  h.kept (S := fun q => q = p.block) ((KeptBut.refl (fun q => q = p.block) w).setCell rfl u) (by omega) (by omega) (fun i r hr => by have := hb.2.2 i r hr; omega)

set_option maxHeartbeats 1000000 in
theorem Free_no (a b : Int) {w : World} {base bb lb cap n : Nat} {rs : List Nat} {T : List (List SlotV)} (h : BT w base bb lb cap n rs T) (hi : ¬ (0 ≤ a ∧ a < rs.length ∧ 0 ≤ b ∧ b < n)) :
    Calls Try.prog 11 #[.pointer (some ⟨bb, 0, none⟩), .agg #[.int .i64 a, .int .i64 b]] w fun e w' => e = .returned (.tuple #[.agg #[.int .i64 0, .bool false, .int .i64 0], errV 5]) ∧ Below w.heap.size w w' := by
  have HI := fun w' (k : Below w.heap.size w w') => In_no a b (h.below k) hi
  rw [errV_pos (by decide)] at *
  have HI := hide HI
  clear h hi
  go_enter Try.func11, Try.ntmps11
  go_wp2_with fail
  refine (HI.out _ ?_).mono ?_
  · exact ((Below.refl _ _).alloc (Nat.le_refl _) _).alloc (by simp) _
  rintro e w1 ⟨rfl, b1⟩
  have b0 : Below w.heap.size w w1 := (((Below.refl _ _).alloc (Nat.le_refl _) _).alloc (by simp) _).trans (b1.mono (by simp; omega))
  generalize hwa : (w.alloc (Obj.cells #[Value.int IntKind.i64 a, Value.int IntKind.i64 b] 38)) = wa at *
  have e1 : w.heap.size + 1 = wa.heap.size := by rw [← hwa]; simp
  rw [e1]
  have K := (Bk.new (w := wa) (cs := #[.int .i64 0, .bool false, .int .i64 0]) (t := 33) rfl).later b1
  have r0 := K.get (j := 0) rfl
  have r1 := K.get (j := 1) rfl
  have r2 := K.get (j := 2) rfl
  have z0 := K.fz 0
  have z1 := K.fz 1
  have z2 := K.fz 2
  have hlt := K.lt
  have hge : w.heap.size ≤ wa.heap.size := by omega
  have hs := b0.size
  clear hwa e1 b1 K HI
  generalize wa.heap.size = rb at *
  go_wp2
  exact bodyPost_ret (v := .tuple #[.agg #[.int .i64 0, .bool false, .int .i64 0], .iface 68 (.int .i64 5)]) (by simp [results, Try.results11, go_sem, r0, r1, r2, z0, z1, z2, hlt]) rfl ⟨rfl, (((b0.setCell hge _).setCell hge _).setCell hge _).alloc (by simp; omega) _⟩
set_option maxHeartbeats 1000000 in
theorem Free_off {i j r : Nat} {row : List SlotV} {s : SlotV} {w : World} {base bb lb cap n : Nat} {rs : List Nat} {T : List (List SlotV)} (h : BT w base bb lb cap n rs T) (hi : rs[i]? = some r) (hT : T[i]? = some row) (hj : row[j]? = some s) (hs : s.1 = false) :
    Calls Try.prog 11 #[.pointer (some ⟨bb, 0, none⟩), .agg #[.int .i64 i, .int .i64 j]] w fun e w' => e = .returned (.tuple #[.agg #[.int .i64 0, .bool false, .int .i64 0], errV 7]) ∧ Below w.heap.size w w' := by
  have HI := fun w' (k : Below w.heap.size w w') => In_yes (h.below k) hi hT hj
  have e0 : inV s = .tuple #[.agg #[.int .i64 0, .bool false, .int .i64 0], errV 7] := by unfold inV; rw [hs]; rfl
  rw [e0] at HI
  rw [errV_pos (by decide)] at *
  have HI := hide HI
  clear h hi hT hj e0 hs
  go_enter Try.func11, Try.ntmps11
  go_wp2_with fail
  refine (HI.out _ ?_).mono ?_
  · exact ((Below.refl _ _).alloc (Nat.le_refl _) _).alloc (by simp) _
  rintro e w1 ⟨rfl, b1⟩
  have b0 : Below w.heap.size w w1 := (((Below.refl _ _).alloc (Nat.le_refl _) _).alloc (by simp) _).trans (b1.mono (by simp; omega))
  generalize hwa : (w.alloc (Obj.cells #[Value.int IntKind.i64 i, Value.int IntKind.i64 j] 38)) = wa at *
  have e1 : w.heap.size + 1 = wa.heap.size := by rw [← hwa]; simp
  rw [e1]
  have K := (Bk.new (w := wa) (cs := #[.int .i64 0, .bool false, .int .i64 0]) (t := 33) rfl).later b1
  have r0 := K.get (j := 0) rfl
  have r1 := K.get (j := 1) rfl
  have r2 := K.get (j := 2) rfl
  have z0 := K.fz 0
  have z1 := K.fz 1
  have z2 := K.fz 2
  have hlt := K.lt
  have hge : w.heap.size ≤ wa.heap.size := by omega
  have hs := b0.size
  clear hwa e1 b1 K HI
  generalize wa.heap.size = rb at *
  go_wp2
  exact bodyPost_ret (v := .tuple #[.agg #[.int .i64 0, .bool false, .int .i64 0], .iface 68 (.int .i64 7)]) (by simp [results, Try.results11, go_sem, r0, r1, r2, z0, z1, z2, hlt]) rfl ⟨rfl, (((b0.setCell hge _).setCell hge _).setCell hge _).alloc (by simp; omega) _⟩
set_option maxHeartbeats 1000000 in
theorem Free_on {ta tk : Int} {tf : Bool} {i j r : Nat} {row : List SlotV} {w : World} {base bb lb cap n : Nat} {rs : List Nat} {T : List (List SlotV)} (h : BT w base bb lb cap n rs T) (hi : rs[i]? = some r) (hT : T[i]? = some row) (hj : row[j]? = some (true, ta, tf, tk)) :
    Calls Try.prog 11 #[.pointer (some ⟨bb, 0, none⟩), .agg #[.int .i64 i, .int .i64 j]] w fun e w' => e = .returned (.tuple #[.agg #[.int .i64 ta, .bool tf, .int .i64 tk], .nilIface]) ∧ KeptBut (fun q => q = r) w w' ∧ BT w' base bb lb cap n rs (T.set i (row.set j (false, 0, false, 0))) := by
  have hjn := (h.elem hi hT hj).2.2.2.2.2
  have HI := fun w' (k : Below w.heap.size w w') => In_yes (h.below k) hi hT hj
  have e0 : inV (true, ta, tf, tk) = .tuple #[.agg #[.int .i64 ta, .bool tf, .int .i64 tk], .nilIface] := rfl
  rw [e0] at HI
  have HI := hide HI
  have HB := fun w' (k : Below w.heap.size w w') => bat_yes (h.below k) hi hjn
  have HB := hide HB
  have HE := fun w' (k : Below w.heap.size w w') => (h.below k).elem hi hT hj
  have HE := hide HE
  have HP := fun w' (k : Below w.heap.size w w') => (h.below k).put hi hT hj (false, 0, false, 0)
  have HP := hide HP
  have hrl := (h.lt0 hi).1
  have hlts := hide h.lts
  clear h hi hT hj e0
  go_enter Try.func11, Try.ntmps11
  go_wp2_with fail
  refine (HI.out _ ?_).mono ?_
  · exact ((Below.refl _ _).alloc (Nat.le_refl _) _).alloc (by simp) _
  rintro e w1 ⟨rfl, b1⟩
  have b0 : Below w.heap.size w w1 := (((Below.refl _ _).alloc (Nat.le_refl _) _).alloc (by simp) _).trans (b1.mono (by simp; omega))
  have K1 := (((Bk.new (w := w) (cs := #[.int .i64 i, .int .i64 j]) (t := 38) rfl).alloc _).later b1)
  generalize hwa : (w.alloc (Obj.cells #[Value.int IntKind.i64 i, Value.int IntKind.i64 j] 38)) = wa at *
  have e1 : w.heap.size + 1 = wa.heap.size := by rw [← hwa]; simp
  rw [e1]
  have K2 := (Bk.new (w := wa) (cs := #[.int .i64 0, .bool false, .int .i64 0]) (t := 33) rfl).later b1
  have hlt := K2.lt
  have hge : w.heap.size ≤ wa.heap.size := by omega
  have hne : r < wa.heap.size := by omega
  have hpb : w.heap.size < wa.heap.size := by omega
  have hs := b0.size
  clear hwa e1 b1 HI
  have p0 := K1.get (j := 0) rfl
  have p1 := K1.get (j := 1) rfl
  have hlp := K1.lt
  generalize wa.heap.size = rb at *
  go_wp2_with fail
  refine (HB.out _ ?_).mono ?_
  · exact b0.alloc hs _
  rintro e w2 ⟨rfl, b2⟩
  have b3 : Below w.heap.size w w2 := (b0.alloc hs _).trans (b2.mono (by simp; omega))
  obtain ⟨d0, d1, d2, d3, dz, _⟩ := HE.out w2 b3
  have y0 := dz (j * 4)
  have y1 := dz (j * 4 + 1)
  have y2 := dz (j * 4 + 2)
  have y3 := dz (j * 4 + 3)
  have HQ := HP.out w2 b3
  have HK := (KeptBut.of_below (S := fun q => q = r) b3 (Nat.le_refl _)).trans (set4_kept w2 r j (false, 0, false, 0))
  have K3 := (K2.alloc _).later b2
  have r0 := K3.get (j := 0) rfl
  have r1 := K3.get (j := 1) rfl
  have r2 := K3.get (j := 2) rfl
  have z0 := K3.fz 0
  have z1 := K3.fz 1
  have z2 := K3.fz 2
  have K4 := (Bk.new (w := w1) (cs := #[.int .i64 ta, .bool tf, .int .i64 tk]) (t := 33) rfl).later b2
  have s0 := K4.get (j := 0) rfl
  have s1 := K4.get (j := 1) rfl
  have s2 := K4.get (j := 2) rfl
  have HQ := hide HQ; have HK := hide HK
  clear HB HE HP K1 K2 K3 K4 b2 p0 p1 dz b0
  generalize w1.heap.size = tb at *
  go_wp2
  exact bodyPost_ret (v := .tuple #[.agg #[.int .i64 ta, .bool tf, .int .i64 tk], .nilIface]) (by simp [results, Try.results11, go_sem, r0, r1, r2, z0, z1, z2]) rfl ⟨rfl, ((HK.out.setNew hge _).setNew hge _).setNew hge _, ((HQ.out.setNew hlts.out hge _).setNew hlts.out hge _).setNew hlts.out hge _⟩

theorem Room_none (a : Int) {w : World} {base bb lb cap n : Nat} {rs : List Nat} {T : List (List SlotV)} (h : BT w base bb lb cap n rs T) (hi : ¬ (0 ≤ a ∧ a < rs.length)) :
    Calls Try.prog 12 #[.pointer (some ⟨bb, 0, none⟩), .int .i64 a] w fun e w' => e = .returned (.tuple #[.agg #[.int .i64 0, .int .i64 0], errV 5]) ∧ Below w.heap.size w w' := by
  rw [errV_pos (by decide)]
  have c0 := h.c0
  have hlr := h.lr
  clear h
  by_cases h0 : a < 0
  · have e1 : decide (a < 0) = true := by simpa using h0
    clear hi
    go_enter Try.func12, Try.ntmps12
    go_wp2
    exact bodyPost_ret (v := .tuple #[.agg #[.int .i64 0, .int .i64 0], .iface 68 (.int .i64 5)]) (by simp [results, Try.results12, go_sem]) rfl ⟨rfl, (Below.refl _ _).alloc (Nat.le_refl _) _⟩
  · have e1 : decide (a < 0) = false := by simpa using h0
    have e2 : decide ((rs.length : Int) ≤ a) = true := by simp; omega
    have c0' := cell_later (ba w (.cells #[.int .i64 0, .int .i64 0] 38)) c0
    clear hi
    go_enter Try.func12, Try.ntmps12
    go_wp2
    exact bodyPost_ret (v := .tuple #[.agg #[.int .i64 0, .int .i64 0], .iface 68 (.int .i64 5)]) (by simp [results, Try.results12, go_sem]) rfl ⟨rfl, (Below.refl _ _).alloc (Nat.le_refl _) _⟩

theorem isFree (s : SlotV) (w : World) :
    Calls Try.prog 34 #[.agg #[.bool s.1, .int .i64 s.2.1, .bool s.2.2.1, .int .i64 s.2.2.2]] w fun e w' => e = .returned (.bool (!s.1)) ∧ Below w.heap.size w w' := by
  go_enter Try.func34, Try.ntmps34
  go_wp2
  go_ret
  exact ⟨rfl, (Below.refl _ _).alloc (Nat.le_refl _) _⟩
theorem Sl.slot {w : World} {ao : Option Addr} {l : List SlotV} (h : Sl 4 encS w ao l) {k : Nat} (hk : k < l.length) :
    ∃ b off s, ao = some ⟨b, off, none⟩ ∧ b < w.heap.size ∧ l[k]? = some s ∧ w.cell? ⟨b, off + k * 4, none⟩ = some (.bool s.1) ∧ w.cell? ⟨b, off + k * 4 + 1, none⟩ = some (.int .i64 s.2.1) ∧
      w.cell? ⟨b, off + k * 4 + 2, none⟩ = some (.bool s.2.2.1) ∧ w.cell? ⟨b, off + k * 4 + 3, none⟩ = some (.int .i64 s.2.2.2) := by
  obtain ⟨b, off, e, hlt, hc⟩ := h (by omega)
  exact ⟨b, off, l[k], e, hlt, by simp [hk], hc k l[k] 0 _ (by simp [hk]) rfl, hc k l[k] 1 _ (by simp [hk]) rfl, hc k l[k] 2 _ (by simp [hk]) rfl, hc k l[k] 3 _ (by simp [hk]) rfl⟩
set_option maxHeartbeats 1000000 in
theorem IndexFree_any (ao : Option Addr) (cap : Nat) (l : List SlotV) (w : World) (hl : l.length ≤ 1000) (hs : Sl 4 encS w ao l) :
    Calls Try.prog 33 #[.slice ao l.length cap, .func (.func 34) #[] #[]] w fun e w' => e = .returned (.int .i64 (firstI (fun s : SlotV => !s.1) l)) ∧ Below w.heap.size w w' := by
  go_enter Try.func33, Try.ntmps33
  go_wp2
  go_loopw [8] (fun i wr => ∃ k : Nat, k ≤ l.length ∧ i = .int .i64 k ∧ (∀ (i : Nat) x, i < k → l[i]? = some x → (!x.1) = false) ∧ Below w.heap.size w wr) (fun i _ => l.length - (intOf i).toNat)
  case atStart => exact ⟨0, by omega, rfl, fun i x h => absurd h (by omega), Below.refl _ _⟩
  case round =>
    obtain ⟨k, hk, rfl, hok, hnx⟩ := hrel
    have HOK := hide hok; clear hok
    by_cases hlt : k < l.length
    · obtain ⟨b, off, s, rfl, hbw, hlk, c0, c1, c2, c3⟩ := (hs.later hnx (Nat.le_refl _)).slot hlt
      have Hlk := hide hlk; clear hlk
      go_wp2_with fail
      refine (isFree s _).mono ?_
      rintro e w1 ⟨rfl, hb1⟩
      cases h0 : s.1
      · have H0 := hide h0; clear h0
        go_wp2
        go_ret
        exact ⟨ret_i (firstI_some Hlk.out (by rw [H0.out]; rfl) HOK.out), hnx.trans (hb1.mono hnx.size)⟩
      · have H0 := hide h0; clear h0
        go_wp2
        go_roundw
        case rel => exact ⟨k+1, by omega, by go_num, fun i x hi hx => by
            by_cases e : i = k
            · subst e; rw [Hlk.out] at hx; cases hx; rw [H0.out]; rfl
            · exact HOK.out i x (by omega) hx, hnx.trans (hb1.mono hnx.size)⟩
        case measure => simp [intOf]; omega
    · go_wp2
      go_ret
      exact ⟨ret_i (firstI_none fun i x hi => HOK.out i x (by omega)), hnx⟩

def freeAt (row : List SlotV) : Int := firstI (fun s : SlotV => !s.1) row
def roomV (a : Nat) (row : List SlotV) : Value := if freeAt row < 0 then .tuple #[.agg #[.int .i64 0, .int .i64 0], errV 8] else .tuple #[.agg #[.int .i64 a, .int .i64 (freeAt row)], .nilIface]
set_option maxHeartbeats 1000000 in
theorem Room_yes {i : Nat} {row : List SlotV} {w : World} {base bb lb cap n : Nat} {rs : List Nat} {T : List (List SlotV)} (h : BT w base bb lb cap n rs T) (hT : T[i]? = some row) :
    Calls Try.prog 12 #[.pointer (some ⟨bb, 0, none⟩), .int .i64 i] w fun e w' => e = .returned (roomV i row) ∧ Below w.heap.size w w' := by
  have hil : i < rs.length := by rw [← h.lt]; exact (List.getElem?_eq_some_iff.1 hT).1
  obtain ⟨r, row', hr, hT', hrl, c1, hown⟩ := h.row hil
  rw [hT] at hT'
  obtain rfl := Option.some.inj hT'
  have c0 := h.c0
  have hlr := h.lr
  have hln := h.ln
  have hsl := hown.later (ba w (.cells #[.int .i64 0, .int .i64 0] 38))
  have hz := Own.sl encS_len (by rw [← hrl] at hsl; exact hsl)
  have c0' := cell_later (ba w (.cells #[.int .i64 0, .int .i64 0] 38)) c0
  have c1' := cell_later (ba w (.cells #[.int .i64 0, .int .i64 0] 38)) c1
  have e1 : decide (rs.length ≤ i) = false := by simp; omega
  have HX := hide (IndexFree_any (some ⟨r, 0, none⟩) n row _ (by omega) hz)
  rw [hrl] at HX
  clear h hT hsl hz hown hrl hr hT'
  go_enter Try.func12, Try.ntmps12
  go_wp2_with fail
  refine HX.out.mono ?_
  rintro e w1 ⟨rfl, b1⟩
  have K := (Bk.new (w := w) (cs := #[.int .i64 0, .int .i64 0]) (t := 38) rfl).later b1
  have b0 : Below w.heap.size w w1 := ((Below.refl _ _).alloc (Nat.le_refl _) _).trans (b1.mono (by simp))
  have r0 := K.get (j := 0) rfl
  have r1 := K.get (j := 1) rfl
  have z0 := K.fz 0
  have z1 := K.fz 1
  have hge : w.heap.size ≤ w.heap.size := Nat.le_refl _
  have B0 := hide b0
  clear K b0 b1 HX c0' c1' c0 c1
  have hr : roomV i row = if freeAt row < 0 then .tuple #[.agg #[.int .i64 0, .int .i64 0], errV 8] else .tuple #[.agg #[.int .i64 i, .int .i64 (freeAt row)], .nilIface] := rfl
  rw [show firstI (fun s : SlotV => !s.1) row = freeAt row from rfl]
  have Hr := hide hr
  clear hr
  generalize freeAt row = f at *
  by_cases hf : f < 0
  · have e2 : decide (f < 0) = true := by simpa using hf
    have Hf := hide hf
    clear hf
    go_wp2
    exact bodyPost_ret (v := .tuple #[.agg #[.int .i64 0, .int .i64 0], .iface 68 (.int .i64 8)]) (by simp [results, Try.results12, go_sem, r0, r1, z0, z1]) rfl ⟨by rw [Hr.out, if_pos Hf.out, errV_pos (by decide)], (B0.out.setCell (Nat.le_refl _) _).setCell (Nat.le_refl _) _⟩
  · have e2 : decide (f < 0) = false := by simpa using hf
    have Hf := hide hf
    clear hf
    go_wp2
    exact bodyPost_ret (v := .tuple #[.agg #[.int .i64 i, .int .i64 f], .nilIface]) (by simp [results, Try.results12, go_sem, r0, r1, z0, z1]) rfl ⟨by rw [Hr.out, if_neg (by have := Hf.out; omega)], (B0.out.setCell (Nat.le_refl _) _).setCell (Nat.le_refl _) _⟩

theorem Size_any {w : World} {base bb lb cap n : Nat} {rs : List Nat} {T : List (List SlotV)} (h : BT w base bb lb cap n rs T) :
    Calls Try.prog 14 #[.pointer (some ⟨bb, 0, none⟩)] w fun e w' => e = .returned (.tuple #[.int .i64 rs.length, .int .i64 n]) ∧ Below w.heap.size w w' := by
  have c0 := h.c0
  have hlr := h.lr
  have hl1 := h.l1
  obtain ⟨r, row, _, _, _, c1, _⟩ := h.row (i := 0) h.l1
  clear h
  have f1 : (0 : Int) < (rs.length : Int) := by omega
  go_enter Try.func14, Try.ntmps14
  go_wp2
  go_quiet (fail)
  go_wp2
  go_ret2
  exact ⟨rfl, below_drewN (Below.refl _ _) _⟩

/-- is the task t in the row? -/
def inRow (t : Int × Bool × Int) (row : List SlotV) : Bool := row.any fun s => s == (true, t)
theorem slot_eq {s : SlotV} {a k : Int} {f : Bool} : (s == (true, a, f, k)) = (s.1 && (s.2.1 == a && (s.2.2.1 == f && s.2.2.2 == k))) := by
  obtain ⟨s0, s1, s2, s3⟩ := s
  rw [Bool.eq_iff_iff]
  simp [Prod.mk.injEq]
set_option maxHeartbeats 1000000 in
theorem IndexSlot_any (ao : Option Addr) (cap : Nat) (l : List SlotV) (ta tk : Int) (tf : Bool) (w : World) (hl : l.length ≤ 1000) (hs : Sl 4 encS w ao l) :
    Calls Try.prog 45 #[.slice ao l.length cap, .agg #[.bool true, .int .i64 ta, .bool tf, .int .i64 tk]] w fun e w' => e = .returned (.int .i64 (firstI (fun s : SlotV => s == (true, ta, tf, tk)) l)) ∧ Below w.heap.size w w' := by
  go_enter Try.func45, Try.ntmps45
  go_wp2
  go_loopw [8] (fun i wr => ∃ k : Nat, k ≤ l.length ∧ i = .int .i64 k ∧ (∀ (i : Nat) x, i < k → l[i]? = some x → (x == (true, ta, tf, tk)) = false) ∧ Below w.heap.size w wr ∧ Bk wr w.heap.size [.bool true, .int .i64 ta, .bool tf, .int .i64 tk]) (fun i _ => l.length - (intOf i).toNat)
  case atStart => exact ⟨0, by omega, rfl, fun i x h => absurd h (by omega), (Below.refl _ _).alloc (Nat.le_refl _) _, Bk.new rfl⟩
  case round =>
    obtain ⟨k, hk, rfl, hok, hnx, hbk⟩ := hrel
    have HOK := hide hok; clear hok
    by_cases hlt : k < l.length
    · obtain ⟨b, off, s, rfl, hbw, hlk, c0, c1, c2, c3⟩ := (hs.later hnx (Nat.le_refl _)).slot hlt
      have Hlk := hide hlk; clear hlk
      have d0 := hbk.get (j := 0) rfl
      have d1 := hbk.get (j := 1) rfl
      have d2 := hbk.get (j := 2) rfl
      have d3 := hbk.get (j := 3) rfl
      have HB := hide hbk; clear hbk
      by_cases h0 : s = (true, ta, tf, tk)
      · subst h0
        go_wp2
        go_quiet (fail)
        go_wp2
        go_ret
        exact ⟨ret_i (firstI_some Hlk.out (by simp) HOK.out), below_drewN hnx _⟩
      · have hrel' : ∀ (i : Nat) x, i < k + 1 → l[i]? = some x → (x == (true, ta, tf, tk)) = false := fun i x hi hx => by
            by_cases e : i = k
            · subst e; rw [Hlk.out] at hx; cases hx; simpa using h0
            · exact HOK.out i x (by omega) hx
        have HR := hide hrel'
        clear hrel' HOK Hlk
        obtain ⟨on, sa, sf, sk⟩ := s
        have hne : ¬ (on = true ∧ ta = sa ∧ tf = sf ∧ tk = sk) := by rintro ⟨rfl, rfl, rfl, rfl⟩; exact h0 rfl
        clear h0
        cases on
        · clear hne
          go_wp2
          go_quiet (fail)
          go_wp2
          go_roundw
          case rel => exact ⟨k+1, by omega, by go_num, HR.out, below_drewN hnx _, HB.out⟩
          case measure => simp [intOf]; omega
        · by_cases ha : ta = sa
          · subst ha
            by_cases hf : tf = sf
            · subst hf
              have hk' : ¬ tk = sk := fun e => hne ⟨rfl, rfl, rfl, e⟩
              clear hne
              go_wp2
              go_quiet (fail)
              go_wp2
              go_roundw
              case rel => exact ⟨k+1, by omega, by go_num, HR.out, below_drewN hnx _, HB.out⟩
              case measure => simp [intOf]; omega
            · clear hne
              go_wp2
              go_quiet (fail)
              go_wp2
              go_roundw
              case rel => exact ⟨k+1, by omega, by go_num, HR.out, below_drewN hnx _, HB.out⟩
              case measure => simp [intOf]; omega
          · clear hne
            go_wp2
            go_quiet (fail)
            go_wp2
            go_roundw
            case rel => exact ⟨k+1, by omega, by go_num, HR.out, below_drewN hnx _, HB.out⟩
            case measure => simp [intOf]; omega
    · go_wp2
      go_ret
      exact ⟨ret_i (firstI_none fun i x hi => HOK.out i x (by omega)), hnx⟩
end Go.Proofs.Ytidhjpjeehoglaa
