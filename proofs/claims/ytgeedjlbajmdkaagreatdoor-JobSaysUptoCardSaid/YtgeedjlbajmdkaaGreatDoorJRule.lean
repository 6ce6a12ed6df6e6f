/- A reader of a line: a rule. -/
import Derived.Test.YtgeedjlbajmdkaaGreatDoorJExpr
set_option linter.unusedSimpArgs false
set_option linter.unusedVariables false
namespace Go.Proofs.YtgeedjlbajmdkaaGreatDoor
open Go.RowKit

def zeroX : ExR := ⟨0, 0, ⟨#[]⟩, none, 0, []⟩
def zeroRule : RuleR := ⟨false, 0, zeroX, ⟨#[]⟩, zeroX, zeroX⟩
/-- a rule under way: its reader, its cells, what is read by now -/
structure RBox (w0 w : World) (rb : Nat) (s : List UInt8) (bad : Bool) (cs : List Value) (T : List ExR) : Prop where
  lt : rb < w0.heap.size
  rd : Rd w rb s bad
  x : Bk w (w0.heap.size + 1) cs
  z : Bk w w0.heap.size (encRule zeroRule)
  k : KeptBut (fun q => q = rb) w0 w
  sz : w0.heap.size + 2 ≤ w.heap.size
  ts : ∀ e ∈ T, ExS (fun q => w0.heap.size + 2 ≤ q) w 6 e.tree e.cells
section
variable {w0 w w' : World} {rb : Nat} {s s' : List UInt8} {bad bad' : Bool} {cs : List Value} {T : List ExR}
theorem RBox.call (h : RBox w0 w rb s bad cs T) (k : KeptBut (fun q => q = rb) w w') (hr : Rd w' rb s' bad') : RBox w0 w' rb s' bad' cs T :=
  ⟨h.lt, hr, h.x.kept k (by have := h.lt; omega), h.z.kept k (by have := h.lt; omega), h.k.trans k, Nat.le_trans h.sz k.size, fun e he => (h.ts e he).kept k fun q hq e2 => by have := h.lt; omega⟩
theorem RBox.setX (h : RBox w0 w rb s bad cs T) (k : Nat) {u : Value} (hu : cs[k]? = some u) (v : Value) : RBox w0 (w.setCell ⟨w0.heap.size + 1, k, none⟩ v) rb s bad (cs.set k v) T :=
  ⟨h.lt, Bk.setO h.rd (p := ⟨w0.heap.size + 1, k, none⟩) (by have := h.lt; simp; omega) v, h.x.set (k := k) v hu, h.z.setO (p := ⟨w0.heap.size + 1, k, none⟩) (by simp) v, h.k.setNew (p := ⟨w0.heap.size + 1, k, none⟩) (by simp) v,
    by have := h.sz; simp [World.setCell]; omega, fun e he => (h.ts e he).kept ((KeptBut.refl (fun q => q = w0.heap.size + 1) w).setCell (p := ⟨w0.heap.size + 1, k, none⟩) rfl v) fun q hq e2 => by omega⟩
theorem RBox.setBad (h : RBox w0 w rb s bad cs T) (b : Bool) : RBox w0 (w.setCell ⟨rb, 1, none⟩ (.bool b)) rb s b cs T :=
  h.call (KeptBut.setCell (S := fun q => q = rb) (KeptBut.refl _ _) (p := ⟨rb, 1, none⟩) rfl (.bool b)) (h.rd.setBad b)
theorem RBox.add {e : ExR} (h : RBox w0 w rb s bad cs T) (he : ExS (fun q => w0.heap.size + 2 ≤ q) w 6 e.tree e.cells) : RBox w0 w rb s bad cs (e :: T) :=
  ⟨h.lt, h.rd, h.x, h.z, h.k, h.sz, fun x hx => by rcases List.mem_cons.1 hx with rfl | hx; exact he; exact h.ts x hx⟩
end
/-- a row of cells is written -/
def setRow : World → Nat → Nat → List Value → World
  | w, _, _, [] => w
  | w, b, o, v :: l => setRow (w.setCell ⟨b, o, none⟩ v) b (o + 1) l
theorem setRow_kept {S : Nat → Prop} {b : Nat} : ∀ (l : List Value) {w0 w : World} (o : Nat), KeptBut S w0 w → (S b ∨ w0.heap.size ≤ b) → KeptBut S w0 (setRow w b o l)
  | [], _, _, _, h, _ => h
  | v :: l, w0, w, o, h, hb => setRow_kept l (o + 1) (hb.elim (fun hb => h.setCell (p := ⟨b, o, none⟩) hb v) fun hb => h.setNew (p := ⟨b, o, none⟩) hb v) hb
theorem setRow_bk {b : Nat} : ∀ (l : List Value) {w : World} (pre old : List Value), Bk w b (pre ++ old) → old.length = l.length → Bk (setRow w b pre.length l) b (pre ++ l)
  | [], w, pre, old, h, hl => by
    have : old = [] := List.length_eq_zero_iff.1 hl
    rw [this] at h; exact h
  | v :: l, w, pre, u :: old, h, hl => by
    have h1 := h.set (k := pre.length) (u := u) v (by simp)
    rw [show (pre ++ u :: old).set pre.length v = (pre ++ [v]) ++ old by simp] at h1
    have h2 := setRow_bk l (pre ++ [v]) old h1 (by simpa using hl)
    rw [List.length_append] at h2
    show Bk (setRow (w.setCell ⟨b, pre.length, none⟩ v) b (pre.length + 1) l) b (pre ++ v :: l)
    simpa using h2
  | v :: l, w, pre, [], h, hl => by simp at hl
theorem setRow_all {w : World} {b : Nat} {cs : List Value} (l : List Value) (h : Bk w b cs) (hl : cs.length = l.length) : Bk (setRow w b 0 l) b l := setRow_bk l [] cs h hl
theorem afterR_len (w s : List UInt8) : (afterR w s).length ≤ s.length := by unfold afterR; split <;> simp
theorem afterW_len (s : List UInt8) : (afterW s).length ≤ s.length := by
  unfold afterW
  split
  · simp
  · split <;> simp
theorem zeroX_at (S : Nat → Prop) (w : World) (d : Nat) : ExS S w (d + 1) zeroX.tree zeroX.cells := ⟨none, 0, rfl, by decide, by decide, by decide, by decide, fun i x hi => (by have h : ([] : List ExprV)[i]? = some x := hi; simp at h), fun b o e => by cases e⟩
/-- what reader.rule hands back -/
def RR (rb : Nat) (s : List UInt8) (w : World) (e : Ending) (w' : World) : Prop :=
  (∃ r : RuleR, e = .returned r.agg ∧ r.v = (readRule s).1 ∧ (∀ t ∈ [r.val, r.key, r.cond], ExS (fun q => w.heap.size ≤ q) w' 6 t.tree t.cells) ∧ r.txt.size ≤ maxLen ∧ ∃ s', Rd w' rb s' (readRule s).2) ∧ KeptBut (fun q => q = rb) w w'
set_option maxRecDepth 100000 in
set_option maxHeartbeats 8000000 in
theorem rrule_any (rb : Nat) (s : List UInt8) (w : World) (hg : ∀ w', KeptBut (fun q => q = rb) w w' → GW w') (hr : Rd w rb s false) (hs : s.length ≤ 10000) :
    Calls Tryz.prog 53 #[.pointer (some ⟨rb, 0, none⟩)] w (RR rb s w) := by
  have HG := hide hg
  obtain ⟨W1, hW1⟩ : ∃ W, W = w.alloc (.cells (encRule zeroRule).toArray 69) := ⟨_, rfl⟩
  have hb1 : Below w.heap.size w W1 := by rw [hW1]; exact (Below.refl _ _).alloc (Nat.le_refl _) _
  have hk1 : Bk W1 w.heap.size (encRule zeroRule) := by rw [hW1]; exact Bk.new rfl
  have hz1 : W1.heap.size = w.heap.size + 1 := by rw [hW1]; simp
  obtain ⟨W2, hW2⟩ : ∃ W, W = W1.alloc (.cells (encRule zeroRule).toArray 69) := ⟨_, rfl⟩
  have hb2 : Below W1.heap.size W1 W2 := by rw [hW2]; exact (Below.refl _ _).alloc (Nat.le_refl _) _
  have hk2 : Bk W2 (w.heap.size + 1) (encRule zeroRule) := by rw [hW2, ← hz1]; exact Bk.new rfl
  have hb12 : Below w.heap.size w W2 := hb1.trans (hb2.mono (by omega))
  have HX : Hid (RBox w W2 rb s false (encRule zeroRule) []) := ⟨Bk.lt hr, Rd.later hr hb12, hk2, hk1.later hb2, KeptBut.of_below hb12 (Nat.le_refl _), by rw [hW2]; simp; omega, fun e he => by cases he⟩
  have HW : Hid (W2 = (w.alloc (.cells #[.bool false, .int .i64 0, .int .i64 0, .int .i64 0, .string ⟨#[]⟩, .slice none 0 0, .string ⟨#[]⟩, .int .i64 0, .int .i64 0, .string ⟨#[]⟩, .slice none 0 0, .int .i64 0, .int .i64 0, .string ⟨#[]⟩, .slice none 0 0] 69)).alloc (.cells #[.bool false, .int .i64 0, .int .i64 0, .int .i64 0, .string ⟨#[]⟩, .slice none 0 0, .string ⟨#[]⟩, .int .i64 0, .int .i64 0, .string ⟨#[]⟩, .slice none 0 0, .int .i64 0, .int .i64 0, .string ⟨#[]⟩, .slice none 0 0] 69)) := by show _ = _; rw [hW2, hW1]; rfl
  clear hg hr hb1 hk1 hb2 hk2 hb12 hW1 hW2 hz1
  have HN1 := hide (next_any rb s false ⟨#[101, 97, 99, 104]⟩ W2 HX.out.rd (by decide))
  have HD : Hid (readRule s = (⟨nextR wEach s, whenR (afterR wEach s), (condR (afterR wEach s)).1, tx (condR (afterR wEach s)).2.1, (keyR (condR (afterR wEach s)).2.2.1 (condR (afterR wEach s)).2.2.2).1, (valR (keyR (condR (afterR wEach s)).2.2.1 (condR (afterR wEach s)).2.2.2).2.1 (keyR (condR (afterR wEach s)).2.2.1 (condR (afterR wEach s)).2.2.2).2.2).1⟩, (valR (keyR (condR (afterR wEach s)).2.2.1 (condR (afterR wEach s)).2.2.2).2.1 (keyR (condR (afterR wEach s)).2.2.1 (condR (afterR wEach s)).2.2.2).2.2).2.2 || !(valR (keyR (condR (afterR wEach s)).2.2.1 (condR (afterR wEach s)).2.2.2).2.1 (keyR (condR (afterR wEach s)).2.2.1 (condR (afterR wEach s)).2.2.2).2.2).2.1.isEmpty)) := rfl
  rw [show (⟨#[101, 97, 99, 104]⟩ : ByteArray).data.toList = wEach from rfl] at HN1
  have hl1 := Nat.le_trans (afterR_len wEach s) hs
  generalize nextR wEach s = E at *
  generalize afterR wEach s = s1 at *
  go_enter Tryz.func53, Tryz.ntmps53
  go_upto_region 2 with (fail)
  rw [← HW.out]
  clear HW
  go_wp2_with fail
  refine HN1.out.mono ?_
  rintro e w2 ⟨⟨rfl, hr2⟩, k2⟩
  replace HX := hide (HX.out.call k2 hr2)
  have c0 := HX.out.x.get (j := 0) rfl
  have z0 := HX.out.x.fz 0
  clear hr2 k2 HN1
  go_upto_block 0 with (fail)
  replace HX := hide (HX.out.setX 0 rfl (.bool E))
  clear c0 z0
  generalize w2.setCell ⟨w.heap.size + 1, 0, none⟩ (.bool E) = W3 at *
  have HN2 := hide (next_any rb s1 false ⟨#[115, 97, 109, 101]⟩ W3 HX.out.rd (by decide))
  rw [show (⟨#[115, 97, 109, 101]⟩ : ByteArray).data.toList = wSame from rfl] at HN2
  go_cut [] from 7 to 14 (fun wc => Hid (RBox w wc rb (afterW s1) false (encRule ⟨E, whenR s1, zeroX, ⟨#[]⟩, zeroX, zeroX⟩) []))
  case first =>
    obtain ⟨n1, hn1⟩ : ∃ n, nextR wSame s1 = n := ⟨_, rfl⟩
    rw [hn1] at HN2
    cases n1 with
    | true =>
      have HE : Hid (whenR s1 = 1 ∧ afterW s1 = afterR wSame s1) := by refine ⟨by unfold whenR; rw [if_pos hn1], by unfold afterW afterR; rw [if_pos hn1, if_pos hn1]; rfl⟩
      clear hn1
      go_wp2_with fail
      refine HN2.out.mono ?_
      rintro e w4 ⟨⟨rfl, hr4⟩, k4⟩
      have HX4 := hide (HX.out.call k4 hr4)
      have c1 := HX4.out.x.get (j := 1) rfl
      have z1 := HX4.out.x.fz 1
      have HX5 := hide (HX4.out.setX 1 rfl (.int .i64 1))
      clear hr4 k4 HN2
      go_wp2
      go_meet
      rw [HE.out.1, HE.out.2]
      exact HX5
    | false =>
      have HA : Hid (afterR wSame s1 = s1) := by show _ = _; unfold afterR; simp [hn1]
      obtain ⟨n2, hn2⟩ : ∃ n, nextR wOther s1 = n := ⟨_, rfl⟩
      have HE1 : Hid (n2 = true → whenR s1 = 2 ∧ afterW s1 = afterR wOther s1) := fun h => by rw [h] at hn2; refine ⟨by unfold whenR; rw [if_neg (by rw [hn1]; decide), if_pos hn2], by unfold afterW afterR; rw [if_neg (by rw [hn1]; decide), if_pos hn2, if_pos hn2]; rfl⟩
      have HE0 : Hid (n2 = false → whenR s1 = 0 ∧ afterW s1 = s1 ∧ afterR wOther s1 = s1) := fun h => by unfold whenR afterW afterR; simp [hn1, hn2, h]
      clear hn1
      go_wp2_with fail
      refine HN2.out.mono ?_
      rintro e w4 ⟨⟨rfl, hr4⟩, k4⟩
      rw [HA.out] at hr4
      have HX4 := hide (HX.out.call k4 hr4)
      have HN3 := hide (next_any rb s1 false ⟨#[111, 116, 104, 101, 114]⟩ w4 HX4.out.rd (by decide))
      rw [show (⟨#[111, 116, 104, 101, 114]⟩ : ByteArray).data.toList = wOther from rfl, hn2] at HN3
      clear hr4 k4 HN2 hn2
      cases n2 with
      | true =>
        have HE := hide (HE1.out rfl)
        clear HE1 HE0
        go_wp2_with fail
        refine HN3.out.mono ?_
        rintro e w5 ⟨⟨rfl, hr5⟩, k5⟩
        have HX5 := hide (HX4.out.call k5 hr5)
        have c1 := HX5.out.x.get (j := 1) rfl
        have z1 := HX5.out.x.fz 1
        have HX6 := hide (HX5.out.setX 1 rfl (.int .i64 2))
        clear hr5 k5 HN3
        go_wp2
        go_meet
        rw [HE.out.1, HE.out.2]
        exact HX6
      | false =>
        have HE := hide (HE0.out rfl)
        clear HE1 HE0
        go_wp2_with fail
        refine HN3.out.mono ?_
        rintro e w5 ⟨⟨rfl, hr5⟩, k5⟩
        rw [HE.out.2.2] at hr5
        have HX5 := hide (HX4.out.call k5 hr5)
        clear hr5 k5 HN3
        go_wp2
        go_meet
        rw [HE.out.1, HE.out.2.1]
        exact HX5
  case rest =>
  clear HX HN2
  have HX := hcut
  clear hcut
  have hl2 := Nat.le_trans (afterW_len s1) hl1
  obtain ⟨wn, hwn⟩ : ∃ wn, whenR s1 = wn := ⟨_, rfl⟩
  have HWN := hide hwn
  rw [hwn] at HX HD
  clear hwn
  have HCE : Hid (wn ≠ 0 → condR s1 = ((readX 5 (afterW s1) false).1, (quotedR (readX 5 (afterW s1) false).2.1).1, (quotedR (readX 5 (afterW s1) false).2.1).2.1, (readX 5 (afterW s1) false).2.2 || (quotedR (readX 5 (afterW s1) false).2.1).2.2)) := fun h => by
    unfold condR
    rw [if_neg (by rw [HWN.out]; exact h)]
  have HC0 : Hid (wn = 0 → condR s1 = (blankX, [], afterW s1, false)) := fun h => by
    unfold condR
    rw [if_pos (by rw [HWN.out]; exact h)]
  generalize condR s1 = C at *
  generalize afterW s1 = s2 at *
  have c1 := HX.out.x.get (j := 1) rfl
  obtain ⟨tb, htb⟩ : ∃ tb, (wn != 0) = tb := ⟨_, rfl⟩
  go_upto_if 17 with (fail)
  have HTB := hide htb
  clear htb
  go_cut [] from 18 to 23 (fun wd => Hid ((∃ cond : ExR, cond.tree = C.1 ∧ RBox w wd rb C.2.2.1 C.2.2.2 (encRule ⟨E, wn, cond, tx C.2.1, zeroX, zeroX⟩) [cond]) ∧ C.2.1.length ≤ 10000 ∧ C.2.2.1.length ≤ 10000))
  case first =>
    by_cases hw0 : wn = 0
    · obtain rfl : tb = false := by rw [← HTB.out, hw0]; rfl
      have HC := hide (HC0.out hw0)
      clear HTB hw0 HCE HC0
      go_wp2
      go_meet
      rw [HC.out]
      refine ⟨⟨zeroX, rfl, HX.out.add (zeroX_at _ _ 5)⟩, by simp, hl2⟩
    · obtain rfl : tb = true := by rw [← HTB.out]; simpa using hw0
      have HC := hide (HCE.out hw0)
      clear HTB HCE HC0
      have hlx := readX_len 5 s2 false
      have HRX := hide (rexpr_any rb 5 1 s2 false wc (by decide) (by decide) (fun w' k => HG.out w' (HX.out.k.trans k)) HX.out.rd (by omega))
      unfold RX at HRX
      generalize readX 5 s2 false = px at *
      have hlq := quotedR_len px.2.1
      go_wp2_with fail
      refine HRX.out.mono ?_
      rintro e w5 ⟨⟨⟨rk, rn, rs, rao, rcap, ra⟩, rfl, hrt, hrx, hrd⟩, k5⟩
      dsimp only [ExR.agg]
      have HX5 := hide ((HX.out.call k5 hrd).add (hrx.mono fun q hq => Nat.le_trans HX.out.sz hq))
      have HRT := hide hrt
      have d2 := HX5.out.x.get (j := 2) rfl
      have d3 := HX5.out.x.get (j := 3) rfl
      have d4 := HX5.out.x.get (j := 4) rfl
      have d5 := HX5.out.x.get (j := 5) rfl
      have y2 := HX5.out.x.fz 2
      have y3 := HX5.out.x.fz 3
      have y4 := HX5.out.x.fz 4
      have y5 := HX5.out.x.fz 5
      have HX6 := hide ((((HX5.out.setX 2 rfl (.int .i64 rk)).setX 3 rfl (.int .i64 rn)).setX 4 rfl (.string rs)).setX 5 rfl (.slice rao ra.length rcap))
      have HQ := hide (rquoted_any rb px.2.1 px.2.2 _ HX6.out.rd (by omega))
      clear k5 hrd hrx hrt HRX
      go_wp2_with fail
      refine HQ.out.mono ?_
      rintro e w6 ⟨⟨rfl, hr6⟩, k6⟩
      have HX7 := hide (HX6.out.call k6 hr6)
      have d6 := HX7.out.x.get (j := 6) rfl
      have y6 := HX7.out.x.fz 6
      have HX8 := hide (HX7.out.setX 6 rfl (.string (tx (quotedR px.2.1).1)))
      clear hr6 k6 HQ d2 d3 d4 d5 y2 y3 y4 y5 HX6 HX5
      go_wp2
      go_meet
      rw [HC.out]
      exact ⟨⟨⟨rk, rn, rs, rao, rcap, ra⟩, HRT.out, HX8.out⟩, by show (quotedR px.2.1).1.length ≤ 10000; have := hlq.1; omega, by show (quotedR px.2.1).2.1.length ≤ 10000; have := hlq.2; omega⟩
  case rest =>
  obtain ⟨⟨cond, hct, hx⟩, hcl1, hcl2⟩ := hcut.out
  clear HX hcut HCE HC0 HTB c1
  have HX := hide hx
  have HCT := hide hct
  clear hx hct
  obtain ⟨ct, txt, s3, b3⟩ := C
  dsimp only at HX HCT HD hcl1 hcl2
  have HN_k := hide (next_any rb s3 b3 ⟨#[107, 101, 121]⟩ wc HX.out.rd (by decide))
  rw [show (⟨#[107, 101, 121]⟩ : ByteArray).data.toList = wKey from rfl] at HN_k
  go_upto_region 10 with (fail)
  go_cut [] from 24 to 35 (fun wd => Hid (RBox w wd rb (afterR wKey s3) (!nextR wKey s3 || b3) (encRule ⟨E, wn, cond, tx txt, zeroX, zeroX⟩) [cond]))
  case first =>
    obtain ⟨nk, hnk⟩ : ∃ nk, nextR wKey s3 = nk := ⟨_, rfl⟩
    rw [hnk] at HN_k
    have HNK := hide hnk
    clear hnk
    go_wp2_with fail
    refine HN_k.out.mono ?_
    rintro e w4 ⟨⟨rfl, hr4⟩, k4⟩
    have HX4 := hide (HX.out.call k4 hr4)
    have d1 := HX4.out.rd.bad
    have z1 := Bk.fz HX4.out.rd 1
    have HX5 := hide (HX4.out.setBad (!nk || b3))
    clear hr4 k4 HN_k
    cases nk with
    | true =>
      go_wp2
      go_meet
      rw [HNK.out]
      exact HX5
    | false =>
      go_wp2
      go_meet
      rw [HNK.out]
      exact HX5
  case rest =>
  clear HX HN_k
  have HX := hcut
  clear hcut
  have hl_k := readX_len 5 (afterR wKey s3) (!nextR wKey s3 || b3)
  have hl2_k := afterR_len wKey s3
  have HRX_k := hide (rexpr_any rb 5 1 (afterR wKey s3) (!nextR wKey s3 || b3) wc (by decide) (by decide) (fun w' k => HG.out w' (HX.out.k.trans k)) HX.out.rd (by omega))
  unfold RX at HRX_k
  have HDK : Hid (keyR s3 b3 = readX 5 (afterR wKey s3) (!nextR wKey s3 || b3)) := rfl
  generalize keyR s3 b3 = K at *
  rw [← HDK.out] at HRX_k hl_k
  go_wp2_with fail
  refine HRX_k.out.mono ?_
  rintro e w5 ⟨⟨⟨rk, rn, rs, rao, rcap, ra⟩, rfl, hrt, hrx, hrd⟩, k5⟩
  dsimp only [ExR.agg]
  have HX5 := hide ((HX.out.call k5 hrd).add (hrx.mono fun q hq => Nat.le_trans HX.out.sz hq))
  have HKT := hide hrt
  have d0 := HX5.out.x.get (j := 7) rfl
  have y0 := HX5.out.x.fz 7
  have d1 := HX5.out.x.get (j := 8) rfl
  have y1 := HX5.out.x.fz 8
  have d2 := HX5.out.x.get (j := 9) rfl
  have y2 := HX5.out.x.fz 9
  have d3 := HX5.out.x.get (j := 10) rfl
  have y3 := HX5.out.x.fz 10
  have HX6 := hide ((((HX5.out.setX 7 rfl (.int .i64 rk)).setX 8 rfl (.int .i64 rn)).setX 9 rfl (.string rs)).setX 10 rfl (.slice rao ra.length rcap))
  clear k5 hrd hrx hrt HRX_k HX HDK
  go_upto_region 12 with (fail)
  clear d0 d1 d2 d3 y0 y1 y2 y3 HX5
  obtain ⟨key, hkey⟩ : ∃ key : ExR, key = ⟨rk, rn, rs, rao, rcap, ra⟩ := ⟨_, rfl⟩
  have HX : Hid (RBox w ((((w5.setCell ⟨w.heap.size + 1, 7, none⟩ (.int .i64 rk)).setCell ⟨w.heap.size + 1, 8, none⟩ (.int .i64 rn)).setCell ⟨w.heap.size + 1, 9, none⟩ (.string rs)).setCell ⟨w.heap.size + 1, 10, none⟩ (.slice rao ra.length rcap)) rb K.2.1 K.2.2 (encRule ⟨E, wn, cond, tx txt, key, zeroX⟩) [key, cond]) := by rw [hkey]; exact HX6.out
  have HKEY : Hid (key.tree = K.1) := by show _ = _; rw [hkey]; exact HKT.out
  generalize ((((w5.setCell ⟨w.heap.size + 1, 7, none⟩ (.int .i64 rk)).setCell ⟨w.heap.size + 1, 8, none⟩ (.int .i64 rn)).setCell ⟨w.heap.size + 1, 9, none⟩ (.string rs)).setCell ⟨w.heap.size + 1, 10, none⟩ (.slice rao ra.length rcap)) = wc at *
  clear HX6 HKT hkey
  obtain ⟨kt, s4, b4⟩ := K
  dsimp only at HX HKEY HD hl_k
  have HN_v := hide (next_any rb s4 b4 ⟨#[118, 97, 108]⟩ wc HX.out.rd (by decide))
  rw [show (⟨#[118, 97, 108]⟩ : ByteArray).data.toList = wVal from rfl] at HN_v
  go_upto_region 12 with (fail)
  go_cut [] from 39 to 50 (fun wd => Hid (RBox w wd rb (afterR wVal s4) (!nextR wVal s4 || b4) (encRule ⟨E, wn, cond, tx txt, key, zeroX⟩) [key, cond]))
  case first =>
    obtain ⟨nk, hnk⟩ : ∃ nk, nextR wVal s4 = nk := ⟨_, rfl⟩
    rw [hnk] at HN_v
    have HNK := hide hnk
    clear hnk
    go_wp2_with fail
    refine HN_v.out.mono ?_
    rintro e w4 ⟨⟨rfl, hr4⟩, k4⟩
    have HX4 := hide (HX.out.call k4 hr4)
    have d1 := HX4.out.rd.bad
    have z1 := Bk.fz HX4.out.rd 1
    have HX5 := hide (HX4.out.setBad (!nk || b4))
    clear hr4 k4 HN_v
    cases nk with
    | true =>
      go_wp2
      go_meet
      rw [HNK.out]
      exact HX5
    | false =>
      go_wp2
      go_meet
      rw [HNK.out]
      exact HX5
  case rest =>
  clear HX HN_v
  have HX := hcut
  clear hcut
  have hl_v := readX_len 5 (afterR wVal s4) (!nextR wVal s4 || b4)
  have hl2_v := afterR_len wVal s4
  have HRX_v := hide (rexpr_any rb 5 1 (afterR wVal s4) (!nextR wVal s4 || b4) wc (by decide) (by decide) (fun w' k => HG.out w' (HX.out.k.trans k)) HX.out.rd (by omega))
  unfold RX at HRX_v
  have HDV : Hid (valR s4 b4 = readX 5 (afterR wVal s4) (!nextR wVal s4 || b4)) := rfl
  generalize valR s4 b4 = V at *
  rw [← HDV.out] at HRX_v hl_v
  go_wp2_with fail
  refine HRX_v.out.mono ?_
  rintro e w5 ⟨⟨⟨rk, rn, rs, rao, rcap, ra⟩, rfl, hrt, hrx, hrd⟩, k5⟩
  dsimp only [ExR.agg]
  have HX5 := hide ((HX.out.call k5 hrd).add (hrx.mono fun q hq => Nat.le_trans HX.out.sz hq))
  have HVT := hide hrt
  have d0 := HX5.out.x.get (j := 11) rfl
  have y0 := HX5.out.x.fz 11
  have d1 := HX5.out.x.get (j := 12) rfl
  have y1 := HX5.out.x.fz 12
  have d2 := HX5.out.x.get (j := 13) rfl
  have y2 := HX5.out.x.fz 13
  have d3 := HX5.out.x.get (j := 14) rfl
  have y3 := HX5.out.x.fz 14
  have HX6 := hide ((((HX5.out.setX 11 rfl (.int .i64 rk)).setX 12 rfl (.int .i64 rn)).setX 13 rfl (.string rs)).setX 14 rfl (.slice rao ra.length rcap))
  clear k5 hrd hrx hrt HRX_v HX HDV
  go_upto_region 14 with (fail)
  clear d0 d1 d2 d3 y0 y1 y2 y3 HX5
  obtain ⟨val, hval⟩ : ∃ val : ExR, val = ⟨rk, rn, rs, rao, rcap, ra⟩ := ⟨_, rfl⟩
  have HX : Hid (RBox w ((((w5.setCell ⟨w.heap.size + 1, 11, none⟩ (.int .i64 rk)).setCell ⟨w.heap.size + 1, 12, none⟩ (.int .i64 rn)).setCell ⟨w.heap.size + 1, 13, none⟩ (.string rs)).setCell ⟨w.heap.size + 1, 14, none⟩ (.slice rao ra.length rcap)) rb V.2.1 V.2.2 (encRule ⟨E, wn, cond, tx txt, key, val⟩) [val, key, cond]) := by rw [hval]; exact HX6.out
  have HVAL : Hid (val.tree = V.1) := by show _ = _; rw [hval]; exact HVT.out
  generalize ((((w5.setCell ⟨w.heap.size + 1, 11, none⟩ (.int .i64 rk)).setCell ⟨w.heap.size + 1, 12, none⟩ (.int .i64 rn)).setCell ⟨w.heap.size + 1, 13, none⟩ (.string rs)).setCell ⟨w.heap.size + 1, 14, none⟩ (.slice rao ra.length rcap)) = wc at *
  clear HX6 HVT hval
  obtain ⟨vt, s5, b5⟩ := V
  dsimp only at HX HVAL HD hl_v
  have d0 := HX.out.rd.s
  have d1 := HX.out.rd.bad
  have z1 := Bk.fz HX.out.rd 1
  obtain ⟨em, hem⟩ : ∃ em, s5.isEmpty = em := ⟨_, rfl⟩
  have m1 : (tx s5).toList.isEmpty = em := by rw [tl, tx_list]; exact hem
  have m2 : ((tx s5).toList == []) = em := by rw [tl, tx_list, ← hem]; cases s5 <;> rfl
  rw [hem] at HD
  clear hem
  go_cut [] from 54 to 67 (fun wd => Hid (RBox w wd rb s5 (b5 || !em) (encRule ⟨E, wn, cond, tx txt, key, val⟩) [val, key, cond]))
  case first =>
    have HX4 := hide (HX.out.setBad (b5 || !em))
    cases b5 with
    | true =>
      go_wp2
      go_meet
      exact HX4
    | false =>
      cases em with
      | true =>
        have m3 : (tx s5).toList = [] := List.isEmpty_iff.1 m1
        go_wp2
        go_meet
        exact HX4
      | false =>
        go_wp2
        go_meet
        exact HX4
  case rest =>
  clear HX d0 d1 z1 m1 m2
  have HX := hcut
  clear hcut
  have c0 := HX.out.x.get (j := 0) rfl
  have r0 := HX.out.z.get (j := 0) rfl
  have y0 := HX.out.z.fz 0
  have c1 := HX.out.x.get (j := 1) rfl
  have r1 := HX.out.z.get (j := 1) rfl
  have y1 := HX.out.z.fz 1
  have c2 := HX.out.x.get (j := 2) rfl
  have r2 := HX.out.z.get (j := 2) rfl
  have y2 := HX.out.z.fz 2
  have c3 := HX.out.x.get (j := 3) rfl
  have r3 := HX.out.z.get (j := 3) rfl
  have y3 := HX.out.z.fz 3
  have c4 := HX.out.x.get (j := 4) rfl
  have r4 := HX.out.z.get (j := 4) rfl
  have y4 := HX.out.z.fz 4
  have c5 := HX.out.x.get (j := 5) rfl
  have r5 := HX.out.z.get (j := 5) rfl
  have y5 := HX.out.z.fz 5
  have c6 := HX.out.x.get (j := 6) rfl
  have r6 := HX.out.z.get (j := 6) rfl
  have y6 := HX.out.z.fz 6
  have c7 := HX.out.x.get (j := 7) rfl
  have r7 := HX.out.z.get (j := 7) rfl
  have y7 := HX.out.z.fz 7
  have c8 := HX.out.x.get (j := 8) rfl
  have r8 := HX.out.z.get (j := 8) rfl
  have y8 := HX.out.z.fz 8
  have c9 := HX.out.x.get (j := 9) rfl
  have r9 := HX.out.z.get (j := 9) rfl
  have y9 := HX.out.z.fz 9
  have c10 := HX.out.x.get (j := 10) rfl
  have r10 := HX.out.z.get (j := 10) rfl
  have y10 := HX.out.z.fz 10
  have c11 := HX.out.x.get (j := 11) rfl
  have r11 := HX.out.z.get (j := 11) rfl
  have y11 := HX.out.z.fz 11
  have c12 := HX.out.x.get (j := 12) rfl
  have r12 := HX.out.z.get (j := 12) rfl
  have y12 := HX.out.z.fz 12
  have c13 := HX.out.x.get (j := 13) rfl
  have r13 := HX.out.z.get (j := 13) rfl
  have y13 := HX.out.z.fz 13
  have c14 := HX.out.x.get (j := 14) rfl
  have r14 := HX.out.z.get (j := 14) rfl
  have y14 := HX.out.z.fz 14
  have hk9 := setRow_all (encRule ⟨E, wn, cond, tx txt, key, val⟩) HX.out.z rfl
  dsimp only [setRow, encRule, Nat.zero_add, Nat.reduceAdd] at hk9
  have f0 := hk9.get (j := 0) rfl
  have f1 := hk9.get (j := 1) rfl
  have f2 := hk9.get (j := 2) rfl
  have f3 := hk9.get (j := 3) rfl
  have f4 := hk9.get (j := 4) rfl
  have f5 := hk9.get (j := 5) rfl
  have f6 := hk9.get (j := 6) rfl
  have f7 := hk9.get (j := 7) rfl
  have f8 := hk9.get (j := 8) rfl
  have f9 := hk9.get (j := 9) rfl
  have f10 := hk9.get (j := 10) rfl
  have f11 := hk9.get (j := 11) rfl
  have f12 := hk9.get (j := 12) rfl
  have f13 := hk9.get (j := 13) rfl
  have f14 := hk9.get (j := 14) rfl
  have HKF := hide (setRow_kept (encRule ⟨E, wn, cond, tx txt, key, val⟩) 0 HX.out.k (b := w.heap.size) (.inr (Nat.le_refl _)))
  have hkf2 := setRow_kept (encRule ⟨E, wn, cond, tx txt, key, val⟩) 0 (KeptBut.refl (fun q => q = w.heap.size) wc) (b := w.heap.size) (.inl rfl)
  have HTF : Hid (∀ t ∈ [val, key, cond], ExS (fun q => w.heap.size ≤ q) (setRow wc w.heap.size 0 (encRule ⟨E, wn, cond, tx txt, key, val⟩)) 6 t.tree t.cells) := fun t ht => ((HX.out.ts t ht).kept hkf2 fun q hq e => by omega).mono fun q hq => by omega
  have HRF := hide (Bk.kept HX.out.rd hkf2 fun e => by have := HX.out.lt; omega)
  have HTX : Hid ((tx txt).size ≤ maxLen) := by show _ ≤ _; rw [tx_size]; unfold maxLen; omega
  clear hk9 hkf2
  go_wp2
  refine bodyPost_ret (v := (⟨E, wn, cond, tx txt, key, val⟩ : RuleR).agg) (by simp [results, Tryz.results53, go_sem, RuleR.agg, f0, f1, f2, f3, f4, f5, f6, f7, f8, f9, f10, f11, f12, f13, f14]) rfl ?_
  refine ⟨⟨⟨E, wn, cond, tx txt, key, val⟩, rfl, ?_, HTF.out, HTX.out, s5, ?_⟩, HKF.out⟩
  · rw [HD.out, ← HCT.out, ← HKEY.out, ← HVAL.out]; rfl
  · rw [HD.out]; exact HRF.out
end Go.Proofs.YtgeedjlbajmdkaaGreatDoor
