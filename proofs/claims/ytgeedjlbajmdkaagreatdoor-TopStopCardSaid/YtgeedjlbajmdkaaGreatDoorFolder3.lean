/- folder: Step. -/
import Derived.Test.YtgeedjlbajmdkaaGreatDoorFolder2
import Derived.Test.YtgeedjlbajmdkaaGreatDoorWords
set_option linter.unusedSimpArgs false
set_option linter.unusedVariables false
namespace Go.Proofs.YtgeedjlbajmdkaaGreatDoor
open Go.RowKit

def natAt (w : World) (g j : Nat) : Nat := match w.cell? ⟨g, j, none⟩ with
  | some (.int _ n) => n.toNat
  | _ => 0
theorem natAt_of {w : World} {g j n : Nat} (h : w.cell? ⟨g, j, none⟩ = some (.int .i64 (n : Int))) : natAt w g j = n := by
  unfold natAt; rw [h]; simp
/-- what Step comes to: so many keys more -/
def keysTo (kind : Int) (L : List Pr) (n : Nat) : Prop := brk kind L n
theorem groups_rest {kind : Int} {L : List Pr} {n : Nat} (h : brk kind L n) (hn : n ≤ L.length) : groups kind L = groups kind (L.take n) ++ groups kind (L.drop n) := by
  conv => lhs; rw [← List.take_append_drop n L]
  rw [← groups_parts]
  rcases hd : L.drop n with _ | ⟨p, t⟩
  · simp [groups]
    exact groups_groups kind _
  · have hp : L[n]? = some p := by rw [← List.head?_drop, hd]; rfl
    unfold groups
    rw [List.foldl_append]
    have h1 : List.foldl (gstep kind) [] (List.foldl (gstep kind) [] (L.take n)) = groups kind (L.take n) := groups_groups kind _
    rw [h1]
    have h2 := fold_groups kind (groups kind (L.take n)) (p :: t)
    unfold groups at h2 ⊢
    rw [h2]
    have key : ∀ (t : List Pr) (A S : List Pr) (q : Pr), t.foldl (gstep kind) (A ++ (S ++ [q])) = A ++ t.foldl (gstep kind) (S ++ [q]) := by
      intro t
      induction t with
      | nil => intro A S q; rfl
      | cons c t ih =>
        intro A S q
        rw [List.foldl_cons, List.foldl_cons]
        by_cases he : q.1 = c.1
        · rw [← List.append_assoc, gstep_same he, gstep_same he, List.append_assoc]
          exact ih A S _
        · rw [← List.append_assoc, gstep_other he, gstep_other he, List.append_assoc A S [q], List.append_assoc A]
          exact ih A (S ++ [q]) c
    rw [List.foldl_cons, List.foldl_cons]
    have h3 : gstep kind (List.foldl (gstep kind) [] (L.take n)) p = List.foldl (gstep kind) [] (L.take n) ++ [p] := gstep_new fun q hq => h q p hq hp
    rw [h3, gstep_nil]
    exact key t _ [] p
theorem brk_end {kind : Int} {L : List Pr} : brk kind L L.length := fun q p _ h => by simp at h
theorem brk_zero {kind : Int} {L : List Pr} : brk kind L 0 := fun q p h _ => by simp [groups] at h
/-- where a run stands -/
structure Stand (kind : Int) (L : List Pr) (n c : Nat) : Prop where
  out : groups kind (L.take n) = (groups kind L).take c
  brk : brk kind L n
  over : n = L.length ↔ (groups kind L).length ≤ c
theorem groups_ne {k : Int} {l : List Pr} : groups k l = [] ↔ l = [] := by
  constructor
  · intro h
    rcases list_end l with rfl | ⟨S, q, rfl⟩
    · rfl
    · rw [groups_snoc] at h
      rcases list_end (groups k S) with h2 | ⟨T, r, h2⟩
      · rw [h2, gstep_nil] at h; cases h
      · rw [h2] at h
        by_cases he : r.1 = q.1
        · rw [gstep_same he] at h; simp at h
        · rw [gstep_other he] at h; simp at h
  · rintro rfl; rfl
theorem Stand.zero {kind : Int} {L : List Pr} : Stand kind L 0 0 := by
  refine ⟨by simp [groups], brk_zero, ?_⟩
  constructor
  · intro h
    have : L = [] := List.length_eq_zero_iff.1 h.symm
    subst this; simp [groups]
  · intro h
    have h2 : groups kind L = [] := List.length_eq_zero_iff.1 (by omega)
    rw [groups_ne.1 h2]; rfl
theorem Stand.next {kind : Int} {L : List Pr} {n n1 c : Nat} {p : Pr} (h : Stand kind L n c) (hn : n < L.length) (hn1 : n1 ≤ L.length) (hg : groups kind (L.take n1) = (groups kind L).take c ++ [p]) (hb : Go.Proofs.YtgeedjlbajmdkaaGreatDoor.brk kind L n1) : Stand kind L n1 (c + 1) := by
  have hc : c < (groups kind L).length := by
    rcases Nat.lt_or_ge c (groups kind L).length with h1 | h1
    · exact h1
    · have := h.over.2 h1; omega
  have hr := groups_rest hb hn1
  rw [hg] at hr
  have hl : ((groups kind L).take c).length = c := by rw [List.length_take]; omega
  refine ⟨?_, hb, ?_⟩
  · have h5 : List.take (c + 1) (List.take c (groups kind L) ++ [p] ++ groups kind (List.drop n1 L)) = List.take c (groups kind L) ++ [p] := by
      rw [List.take_append_of_le_length (by simp; omega), List.take_of_length_le (by simp; omega)]
    rw [← hr] at h5
    rw [hg, h5]
  · have h2 := congrArg List.length hr
    rw [List.length_append, List.length_append, hl, List.length_singleton] at h2
    constructor
    · intro e
      have : groups kind (L.drop n1) = [] := groups_ne.2 (by rw [e]; simp)
      rw [this] at h2; simp at h2; omega
    · intro e
      have h3 : groups kind (L.drop n1) = [] := List.length_eq_zero_iff.1 (by omega)
      have h4 := List.drop_eq_nil_iff.1 (groups_ne.1 h3)
      omega
def StepPost (base g : Nat) (kind : Int) (L : List Pr) (c : Nat) (la : Option Addr) (lc : Nat) (va : Value) (w : World) (e : Ending) (w' : World) : Prop :=
  ∃ n' va', (e = .returned (.bool (decide (n' = L.length))) ∧ RunAt w' base g kind L n' ((groups kind L).take c) la lc va' ∧ Stand kind L n' c ∧ (∀ q, va'.ownBlock = some q → va.ownBlock = some q ∨ w.heap.size ≤ q)) ∧ KeptBut (fun q => q = g ∨ va.ownBlock = some q) w w'
theorem Stand.more {kind : Int} {L : List Pr} {c d : Nat} (h : Stand kind L L.length c) (hd : c ≤ d) : Stand kind L L.length d ∧ (groups kind L).take c = (groups kind L).take d := by
  have h1 := h.over.1 rfl
  have h2 : (groups kind L).take c = (groups kind L).take d := by rw [List.take_of_length_le h1, List.take_of_length_le (by omega)]
  exact ⟨⟨by rw [h.out, h2], h.brk, ⟨fun _ => by omega, fun _ => rfl⟩⟩, h2⟩
theorem step_end {base g : Nat} {kind : Int} {L : List Pr} {n' c : Nat} {la : Option Addr} {lc : Nat} {va va' : Value} {w wr : World} {b : Bool} (hb : decide (n' = L.length) = b) (h1 : RunAt wr base g kind L n' ((groups kind L).take c) la lc va') (h2 : Stand kind L n' c) (h3 : ∀ q, va'.ownBlock = some q → va.ownBlock = some q ∨ w.heap.size ≤ q) (h4 : KeptBut (fun q => q = g ∨ va.ownBlock = some q) w wr) (nq : Nat) :
    StepPost base g kind L c la lc va w (.returned (.bool b)) (wr.drewN nq) := by
  subst hb
  exact ⟨n', va', ⟨rfl, h1.later (below_drewN (Below.refl _ _) _), h2, h3⟩, h4.drewN nq⟩
/-- the append at Step's end, and the run behind it -/
theorem step_grown {base g b off : Nat} {kind : Int} {L : List Pr} {n1 : Nat} {lc oc : Nat} {oa : Option Addr} {out : List Pr} {p : Pr} {va v' : Value} {w W w1 : World} (hlo : base ≤ g) (hn : n1 ≤ L.length) (hbw : b < W.heap.size)
    (hbk : Bk W g [.int .i64 kind, .slice (some ⟨b, off, none⟩) L.length lc, .int .i64 n1, .slice oa out.length oc])
    (hsl : Sl 2 encP W (some ⟨b, off, none⟩) L)
    (hap : (Value.slice oa out.length oc).ownBlock ≠ some g ∧ ∀ c o, (some ⟨b, off, none⟩ : Option Addr) = some ⟨c, o, none⟩ → c ≠ g ∧ (Value.slice oa out.length oc).ownBlock ≠ some c)
    (hv : ∀ q, (Value.slice oa out.length oc).ownBlock = some q → va.ownBlock = some q ∨ w.heap.size ≤ q)
    (hkp : KeptBut (fun q => q = g ∨ va.ownBlock = some q) w W)
    (ho : Own 2 encP 101 w1 base v' (out ++ [p])) (hg : W.grownBy w1 (Value.slice oa out.length oc).ownBlock) (hat : v'.ownBlock = (Value.slice oa out.length oc).ownBlock ∨ v'.ownBlock = some W.heap.size) :
    RunAt (w1.setCell ⟨g, 3, none⟩ v') base g kind L n1 (out ++ [p]) (some ⟨b, off, none⟩) lc v' ∧ (∀ q, v'.ownBlock = some q → va.ownBlock = some q ∨ w.heap.size ≤ q) ∧ KeptBut (fun q => q = g ∨ va.ownBlock = some q) w (w1.setCell ⟨g, 3, none⟩ v') ∧ w1.frozen? ⟨g, 3, none⟩ = false ∧ w1.cell? ⟨g, 3, none⟩ = some (.slice oa out.length oc) := by
  have hK : KeptBut (fun q => (Value.slice oa out.length oc).ownBlock = some q) W w1 := (KeptBut.refl _ W).grownTo hg fun k e => .inl e
  have hbk1 := hbk.kept hK hap.1
  have hgw := hbk.lt
  have hws := hkp.size
  have hbg := (hap.2 b off rfl).1
  have hbo := (hap.2 b off rfl).2
  have hv'g : v'.ownBlock ≠ some g := by
    intro e
    rcases hat with h | h
    · rw [h] at e; exact hap.1 e
    · rw [h] at e; have := Option.some.inj e; omega
  have hv'b : v'.ownBlock ≠ some b := by
    intro e
    rcases hat with h | h
    · rw [h] at e; exact hbo e
    · rw [h] at e; have := Option.some.inj e; omega
  have hsl1 : Sl 2 encP w1 (some ⟨b, off, none⟩) L := hsl.kept hK fun c o e => by cases e; exact hbo
  refine ⟨⟨hbk1.set (k := 3) (u := .slice oa out.length oc) _ rfl, hlo, ?_, ho.setOther hv'g _, ⟨hv'g, ?_⟩, hn⟩, ?_, ?_, hbk1.fz 3, hbk1.get (j := 3) rfl⟩
  · exact hsl1.kept ((KeptBut.refl (fun q => q = g) w1).setCell (p := ⟨g, 3, none⟩) rfl _) fun c o e => by cases e; exact hbg
  · intro c o e
    cases e
    exact ⟨hbg, hv'b⟩
  · intro q e
    rcases hat with h | h
    · rw [h] at e; exact hv q e
    · rw [h] at e; have := Option.some.inj e; right; omega
  · refine KeptBut.setCell ?_ (.inl rfl) _
    exact hkp.grownTo hg fun k e => (hv k e).imp .inr id
set_option maxRecDepth 100000 in
set_option maxHeartbeats 4000000 in
theorem Step_any {base g : Nat} {kind : Int} {L : List Pr} {n c : Nat} {la : Option Addr} {lc : Nat} {va : Value} (many : Int) (w : World) (hbase : base ≤ w.heap.size) (h : RunAt w base g kind L n ((groups kind L).take c) la lc va) (hst : Stand kind L n c) (hL : L.length ≤ 1000000) (hmany : many ≤ 9223372036854775807) :
    Calls Tryz.prog 33 #[.pointer (some ⟨g, 0, none⟩), .int .i64 many] w (StepPost base g kind L (c + many.toNat) la lc va w) := by
  obtain ⟨i0, hi, hz0, hz1, hz2⟩ := info_parts infoPair
  have HRA := hide h
  have HST := hide hst
  obtain ⟨M, hM⟩ : ∃ M : Nat, max many 0 = M := ⟨(max many 0).toNat, by omega⟩
  have hMm : many.toNat = M := by omega
  have hM2 : M ≤ 9223372036854775807 := by omega
  rw [hMm]
  clear h hst hMm
  go_enter Tryz.func33, Tryz.ntmps33
  go_wp2_with fail
  go_loopw [8] (fun i wr => ∃ (j n' : Nat) (va' : Value), j ≤ M ∧ i = .int .i64 j ∧ Hid (RunAt wr base g kind L n' ((groups kind L).take (c + j)) la lc va') ∧ Hid (Stand kind L n' (c + j)) ∧ Hid (∀ q, va'.ownBlock = some q → va.ownBlock = some q ∨ w.heap.size ≤ q) ∧ KeptBut (fun q => q = g ∨ va.ownBlock = some q) w wr) (fun i _ => M - (intOf i).toNat)
  case atStart => exact ⟨0, n, va, by omega, rfl, HRA, HST, (fun q h => .inl h), KeptBut.refl _ _⟩
  case round =>
    obtain ⟨j, n', va', hj, rfl, HR, HS, HV, hkp⟩ := hrel
    obtain ⟨oa, oc, hva⟩ := id HR.out.own.1
    have hout : ((groups kind L).take (c + j)).length ≤ 1000000 := by
      have := groups_length kind L
      rw [List.length_take]; omega
    generalize hoo : (groups kind L).take (c + j) = out at *
    have HOO := hide hoo
    clear hoo
    subst hva
    have c0 := HR.out.bk.get (j := 0) rfl
    have c1 := HR.out.bk.get (j := 1) rfl
    have c2 := HR.out.bk.get (j := 2) rfl
    have c3 := HR.out.bk.get (j := 3) rfl
    have hnl := HR.out.at_le
    have HKP := hide hkp
    clear hkp
    by_cases hjM : j < M
    · by_cases hn : n' < L.length
      · obtain ⟨b, off, x, y, rfl, hbw, hlk, d0, d1⟩ := HR.out.sl.pair hn
        have e1 : decide (j < M) = true := by simp; omega
        have e2 : ((n' : Int) == (L.length : Int)) = false := by rw [beq_eq_false_iff_ne]; omega
        have e3 : (n' == L.length) = false := by rw [beq_eq_false_iff_ne]; omega
        have hst : Hid (groups kind (L.take (n' + 1)) = out ++ [(x, y)]) := by
          show _ = _
          rw [groups_take_succ hlk, HS.out.out, HOO.out]
          refine gstep_new fun q hq => HS.out.brk q _ ?_ hlk
          rw [HS.out.out, HOO.out]; exact hq
        have f1 : (0 : Int) ≤ (n' : Int) ∧ (n' : Int) < (L.length : Int) := by omega
        obtain ⟨f1, f2⟩ := f1
        clear hlk
        go_wp2_with fail
        go_quiet (fail)
        have HR2 := hide (HR.out.later (below_drewN (Below.refl _ _) nq))
        have HKP2 := hide (HKP.out.drewN nq)
        have d0' := cell_later (below_drewN (Below.refl _ _) nq) d0
        have d1' := cell_later (below_drewN (Below.refl _ _) nq) d1
        have hbw2 : b < (wr.drewN nq).heap.size := by rw [World.heap_drewN]; exact hbw
        generalize wr.drewN nq = W2 at *
        clear c0 c1 c2 c3 d0 d1
        have c0 := HR2.out.bk.get (j := 0) rfl
        have c1 := HR2.out.bk.get (j := 1) rfl
        have c2 := HR2.out.bk.get (j := 2) rfl
        have c3 := HR2.out.bk.get (j := 3) rfl
        have z2 := HR2.out.bk.fz 2
        go_upto_region 4 with (fail)
        have hal : Below W2.heap.size W2 (W2.alloc (Obj.cells #[Value.string ⟨#[]⟩, Value.int .i64 0] 101)) := (Below.refl _ _).alloc (Nat.le_refl _) _
        have a1 := cell_later hal c1
        have a2 := cell_later hal c2
        have a3 := cell_later hal d0'
        have a4 := cell_later hal d1'
        clear hal
        go_region
        go_upto_region 5 with (fail)
        have hba : Below W2.heap.size W2 (W2.alloc (.cells #[.string x, .int .i64 y] 101)).drew := ((Below.refl _ _).alloc (Nat.le_refl _) _).drew
        have hBP : Bk (W2.alloc (.cells #[.string x, .int .i64 y] 101)).drew W2.heap.size [.string x, .int .i64 y] := (Bk.new rfl).later ((Below.refl _ _).drew)
        have HR4 := hide (HR2.out.later hba)
        have HKP4 := hide (HKP2.out.trans (KeptBut.of_below hba (Nat.le_refl _)))
        obtain ⟨pb, hpb⟩ : ∃ pb, W2.heap.size = pb := ⟨_, rfl⟩
        have hgp : g < pb := by have := HR2.out.bk.lt; omega
        have hwp : w.heap.size ≤ pb := by have := HKP2.out.size; omega
        have hbp : b < pb := by omega
        have hvp : ∀ q, (Value.slice oa out.length oc).ownBlock = some q → q < pb := fun q hq => by have := (HR2.out.own.lt q hq).2; omega
        rw [hpb] at hBP ⊢
        generalize (W2.alloc (.cells #[.string x, .int .i64 y] 101)).drew = W4 at *
        have HBP := hide hBP
        have HVP := hide hvp
        clear hba hBP hvp hpb c0 c1 c2 c3 z2 d0' d1' hbw HR2 HKP2
        have c2 := HR4.out.bk.get (j := 2) rfl
        have z2 := HR4.out.bk.fz 2
        have hk5 : KeptBut (fun q => q = g) W4 (W4.setCell ⟨g, 2, none⟩ (.int .i64 ((n' : Int) + 1))) := (KeptBut.refl (fun q => q = g) W4).setCell (p := ⟨g, 2, none⟩) rfl _
        have BG : Hid (Bk (W4.setCell ⟨g, 2, none⟩ (.int .i64 ((n' : Int) + 1))) g [.int .i64 kind, .slice (some ⟨b, off, none⟩) L.length lc, .int .i64 ((n' : Int) + 1), .slice oa out.length oc]) := HR4.out.bk.set (k := 2) (u := .int .i64 n') _ rfl
        have BP : Hid (Bk (W4.setCell ⟨g, 2, none⟩ (.int .i64 ((n' : Int) + 1))) pb [.string x, .int .i64 y]) := HBP.out.setO (by show g ≠ pb; omega) _
        have SL : Hid (Sl 2 encP (W4.setCell ⟨g, 2, none⟩ (.int .i64 ((n' : Int) + 1))) (some ⟨b, off, none⟩) L) := HR4.out.sl.kept hk5 fun b' off' e => by cases e; exact (HR4.out.apart.2 b off rfl).1
        have OW : Hid (Own 2 encP 101 (W4.setCell ⟨g, 2, none⟩ (.int .i64 ((n' : Int) + 1))) base (.slice oa out.length oc) out) := HR4.out.own.setOther HR4.out.apart.1 _
        have KP : Hid (KeptBut (fun q => q = g ∨ va.ownBlock = some q) w (W4.setCell ⟨g, 2, none⟩ (.int .i64 ((n' : Int) + 1)))) := HKP4.out.setCell (.inl rfl) _
        have APT := hide HR4.out.apart
        have LO := hide HR4.out.lo
        clear hk5
        go_upto_region 6 with (fail)
        generalize W4.setCell ⟨g, 2, none⟩ (.int .i64 ((n' : Int) + 1)) = W5 at *
        clear HR4 HKP4 HBP c2 z2 HR HKP HRA
        go_loopw [62] (fun _ wi => ∃ (n1 : Nat) (v : Int), n' < n1 ∧ n1 ≤ L.length ∧ Hid (groups kind (L.take n1) = out ++ [(x, v)]) ∧ Hid (Bk wi g [.int .i64 kind, .slice (some ⟨b, off, none⟩) L.length lc, .int .i64 n1, .slice oa out.length oc]) ∧ Hid (Bk wi pb [.string x, .int .i64 v]) ∧ Hid (Sl 2 encP wi (some ⟨b, off, none⟩) L) ∧ Hid (Own 2 encP 101 wi base (.slice oa out.length oc) out) ∧ Hid (KeptBut (fun q => q = g ∨ va.ownBlock = some q) w wi)) (fun _ wi => L.length - natAt wi g 2)
        case atStart => exact ⟨n' + 1, y, by omega, by omega, hst, BG, BP, SL, OW, KP⟩
        case round =>
          clear BG BP SL OW KP hst e1 e2 e3 f1 f2 a1 a2 a3 a4
          obtain ⟨n1, v, hn1, hn2, hgs, BG1, BP1, SL1, OW1, KP1⟩ := hrel
          have c0 := BG1.out.get (j := 0) rfl
          have c1 := BG1.out.get (j := 1) rfl
          have c2 := BG1.out.get (j := 2) rfl
          have p0 := BP1.out.get (j := 0) rfl
          have p1 := BP1.out.get (j := 1) rfl
          by_cases hn3 : n1 < L.length
          · obtain ⟨b', off', x2, y2, hbe, hbw3, hlk2, d0, d1⟩ := SL1.out.pair hn3
            cases hbe
            have e4 : decide (n1 < L.length) = true := by simpa using hn3
            have f1 : (0 : Int) ≤ (n1 : Int) ∧ (n1 : Int) < (L.length : Int) := by omega
            obtain ⟨f1, f2⟩ := f1
            have HLK := hide hlk2
            clear hlk2
            by_cases hk : x2 = x
            · subst hk
              go_wp2_with fail
              go_quiet (fail)
              go_upto_region 7 with (fail)
              have hbd : Below wr.heap.size wr (wr.drewN nq) := below_drewN (Below.refl _ _) nq
              have BG2 := hide (BG1.out.later hbd)
              have BP2 := hide (BP1.out.later hbd)
              have SL2 := hide (SL1.out.later hbd (Nat.le_refl _))
              have OW2 := hide (OW1.out.later hbd)
              have KP2 := hide (KP1.out.drewN nq)
              have d1' := cell_later hbd d1
              generalize wr.drewN nq = W6 at *
              clear c0 c1 c2 p0 p1 d0 d1 hbd
              have c0 := BG2.out.get (j := 0) rfl
              have c1 := BG2.out.get (j := 1) rfl
              have c2 := BG2.out.get (j := 2) rfl
              have p1 := BP2.out.get (j := 1) rfl
              have z1 := BP2.out.fz 1
              have hg2 : Hid (groups kind (L.take (n1 + 1)) = out ++ [(x2, two kind v y2)]) := by
                show _ = _
                rw [groups_take_succ HLK.out, hgs.out, gstep_add]
              refine still_tail 18 (by kernel_rfl) (by kernel_rfl) ?_
              simp only [List.take_succ_cons, List.take_zero, List.drop_succ_cons, List.drop_zero]
              repeat still_step
              still_call ((two_any _ _ _ _).mono fun e w'' h => ⟨h.1, h.2.symm⟩)
              repeat still_step
              refine wpStill_nil ?_
              go_upto_region 8 with (fail)
              generalize two kind v y2 = v2 at *
              have BG3 : Hid (Bk (W6.setCell ⟨pb, 1, none⟩ (.int .i64 v2)) g [.int .i64 kind, .slice (some ⟨b, off, none⟩) L.length lc, .int .i64 n1, .slice oa out.length oc]) := BG2.out.setO (by show pb ≠ g; omega) _
              have BP3 : Hid (Bk (W6.setCell ⟨pb, 1, none⟩ (.int .i64 v2)) pb [.string x2, .int .i64 v2]) := BP2.out.set (k := 1) (u := .int .i64 v) _ rfl
              have SL3 : Hid (Sl 2 encP (W6.setCell ⟨pb, 1, none⟩ (.int .i64 v2)) (some ⟨b, off, none⟩) L) := SL2.out.kept ((KeptBut.refl (fun q => q = pb) W6).setCell (p := ⟨pb, 1, none⟩) rfl _) fun b' off' e => by cases e; show ¬ b = pb; omega
              have OW3 : Hid (Own 2 encP 101 (W6.setCell ⟨pb, 1, none⟩ (.int .i64 v2)) base (.slice oa out.length oc) out) := OW2.out.setOther (fun h => Nat.lt_irrefl _ (HVP.out pb h)) _
              have KP3 : Hid (KeptBut (fun q => q = g ∨ va.ownBlock = some q) w (W6.setCell ⟨pb, 1, none⟩ (.int .i64 v2))) := KP2.out.setNew hwp _
              clear c0 c1 c2 p1 z1 BG2 BP2 SL2 OW2 KP2
              generalize W6.setCell ⟨pb, 1, none⟩ (.int .i64 v2) = W7 at *
              have c2 := BG3.out.get (j := 2) rfl
              have z2 := BG3.out.fz 2
              have BG4 : Hid (Bk (W7.setCell ⟨g, 2, none⟩ (.int .i64 ((n1 : Int) + 1))) g [.int .i64 kind, .slice (some ⟨b, off, none⟩) L.length lc, .int .i64 ((n1 : Int) + 1), .slice oa out.length oc]) := BG3.out.set (k := 2) (u := .int .i64 n1) _ rfl
              have BP4 : Hid (Bk (W7.setCell ⟨g, 2, none⟩ (.int .i64 ((n1 : Int) + 1))) pb [.string x2, .int .i64 v2]) := BP3.out.setO (by show g ≠ pb; omega) _
              have SL4 : Hid (Sl 2 encP (W7.setCell ⟨g, 2, none⟩ (.int .i64 ((n1 : Int) + 1))) (some ⟨b, off, none⟩) L) := SL3.out.kept ((KeptBut.refl (fun q => q = g) W7).setCell (p := ⟨g, 2, none⟩) rfl _) fun b' off' e => by cases e; exact (APT.out.2 b off rfl).1
              have OW4 : Hid (Own 2 encP 101 (W7.setCell ⟨g, 2, none⟩ (.int .i64 ((n1 : Int) + 1))) base (.slice oa out.length oc) out) := OW3.out.setOther APT.out.1 _
              have KP4 : Hid (KeptBut (fun q => q = g ∨ va.ownBlock = some q) w (W7.setCell ⟨g, 2, none⟩ (.int .i64 ((n1 : Int) + 1)))) := KP3.out.setCell (.inl rfl) _
              have hm1 : natAt wr g 2 = n1 := natAt_of (BG1.out.get (j := 2) rfl)
              go_wp2
              go_roundw
              case rel =>
                generalize W7.setCell ⟨g, 2, none⟩ (.int .i64 ((n1 : Int) + 1)) = W8 at *
                exact ⟨n1 + 1, v2, by omega, by omega, hg2, BG4.out.later (Below.refl _ _).drew, BP4.out.later (Below.refl _ _).drew, SL4.out.later (Below.refl _ _).drew (Nat.le_refl _), OW4.out.later (Below.refl _ _).drew, KP4.out.drew⟩
              case measure =>
                generalize W7.setCell ⟨g, 2, none⟩ (.int .i64 ((n1 : Int) + 1)) = W8 at *
                have hm2 := natAt_of (n := n1 + 1) ((BG4.out.later (Below.refl _ _).drew).get (j := 2) rfl)
                first | (rw [hm1, hm2]; omega) | (simp only [hm1, hm2]; omega)
            · have hkk := bneq hk
              go_wp2_with fail
              go_quiet (fail)
              have HBK : Hid (brk kind L n1) := by
                intro q p h1 h2
                rw [hgs.out, List.getLast?_concat] at h1
                rw [HLK.out] at h2
                cases h1; cases h2
                exact fun h => hk h.symm
              have hbd : Below wr.heap.size wr (wr.drewN nq) := below_drewN (Below.refl _ _) nq
              have BG2 := hide (BG1.out.later hbd)
              have BP2 := hide (BP1.out.later hbd)
              have SL2 := hide (SL1.out.later hbd (Nat.le_refl _))
              have OW2 := hide (OW1.out.later hbd)
              have KP2 := hide (KP1.out.drewN nq)
              generalize wr.drewN nq = W6 at *
              clear c0 c1 c2 p0 p1 hbd
              try clear d0 d1
              have c3 := BG2.out.get (j := 3) rfl
              have z3 := BG2.out.fz 3
              have p0 := BP2.out.get (j := 0) rfl
              have p1 := BP2.out.get (j := 1) rfl
              go_upto_region 9 with (fail)
              have hWn : Bk (W6.alloc (Obj.cells #[Value.string x, Value.int .i64 v] 101)).drew W6.heap.size [.string x, .int .i64 v] := (Bk.new rfl).later (Below.refl _ _).drew
              have hbd2 : Below W6.heap.size W6 (W6.alloc (Obj.cells #[Value.string x, Value.int .i64 v] 101)).drew := ((Below.refl _ _).alloc (Nat.le_refl _) _).drew
              have HNW : Hid (∀ (j : Nat) (u : Value), (encP (x, v))[j]? = some u → (W6.alloc (Obj.cells #[Value.string x, Value.int .i64 v] 101)).drew.cell? ((⟨W6.heap.size, 0, none⟩ : Addr).add j) = some u) := by
                intro j u hj
                have h2 := hWn.get (j := j) hj
                have h3 : (⟨W6.heap.size, 0, none⟩ : Addr).add j = ⟨W6.heap.size, j, none⟩ := by
                  rcases j with _ | j <;> simp [Addr.add]
                rw [h3]; exact h2
              have hbw9 : b < W6.heap.size := by have h1 := BP2.out.lt; omega
              have hb9 : base ≤ (W6.alloc (Obj.cells #[Value.string x, Value.int .i64 v] 101)).drew.heap.size := by have h1 := BP2.out.lt; have h2 := hbd2.size; omega
              have hsz9 : W6.heap.size ≤ (W6.alloc (Obj.cells #[Value.string x, Value.int .i64 v] 101)).drew.heap.size := hbd2.size
              have HFIN := hide fun v' w1 ho hg hat => step_grown (va := va) (w := w) (v' := v') (w1 := w1) LO.out hn2 (Nat.lt_of_lt_of_le hbw9 hsz9) (BG2.out.later hbd2) (SL2.out.later hbd2 (Nat.le_refl _)) APT.out HV.out (KP2.out.trans (KeptBut.of_below hbd2 (Nat.le_refl _))) (p := (x, v)) ho hg hat
              have HOW := hide (OW2.out.later hbd2)
              have HNX : Hid (Stand kind L n1 (c + (j + 1))) := HS.out.next hn hn2 (by rw [hgs.out, HOO.out]) HBK.out
              have HOX : Hid ((groups kind L).take (c + (j + 1)) = out ++ [(x, v)]) := by
                show _ = _
                rw [← HNX.out.out, hgs.out]
              have HONE := hide (show ∀ u ∈ encP (x, v), u.oneCell' = true by simp [encP, Value.oneCell'])
              have HLEN := hide (show out.length + 1 ≤ 1000000000 by omega)
              have a3 := cell_later (((Below.refl W6.heap.size W6).alloc (Nat.le_refl _) (Obj.cells #[Value.string x, Value.int .i64 v] 101))) c3
              have HB9 := hide hb9
              clear hWn hbd2 hbw9 hb9 hsz9 BG2 BP2 SL2 OW2 KP2
              go_region_law (refine step_append_one (enc := encP) encP_len _ _ 53 i0 _ rfl rfl Tryz.underlying53 hi hz0 hz1 hz2 rfl (by decide) (by decide) HOW.out (Below.refl _ _) HB9.out HLEN.out rfl (x, v) ⟨W6.heap.size, 0, none⟩ 1 rfl HNW.out HONE.out ?_; intro v' w1 hown1 hb1 hgr hat; obtain ⟨hra, hv1, hk1, z3, c3⟩ := HFIN.out v' w1 hown1 hgr (by simpa using hat); obtain ⟨ao', cap', rfl⟩ := id hown1.1; rw [show (out ++ [(x, v)]).length = out.length + 1 by simp] at hra hv1 hk1; have HRA := hide hra; have HV1 := hide hv1; have HK1 := hide hk1; clear hown1 hb1 hgr hat hra hv1 hk1)
              all_goals
                go_wp2
                go_roundw
                case rel => exact ⟨j + 1, n1, .slice ao' (out.length + 1) cap', by omega, by go_num, (by rw [HOX.out]; exact HRA), HNX, HV1, HK1.out⟩
                case measure => simp [intOf]; omega
          · have e4 : decide (n1 < L.length) = false := by simpa using hn3
            go_wp2_with fail
            go_quiet (fail)
            have HBK : Hid (brk kind L n1) := by
              have hnl2 : n1 = L.length := by omega
              rw [hnl2]; exact brk_end
            have hbd : Below wr.heap.size wr (wr.drewN nq) := below_drewN (Below.refl _ _) nq
            have BG2 := hide (BG1.out.later hbd)
            have BP2 := hide (BP1.out.later hbd)
            have SL2 := hide (SL1.out.later hbd (Nat.le_refl _))
            have OW2 := hide (OW1.out.later hbd)
            have KP2 := hide (KP1.out.drewN nq)
            generalize wr.drewN nq = W6 at *
            clear c0 c1 c2 p0 p1 hbd
            try clear d0 d1
            have c3 := BG2.out.get (j := 3) rfl
            have z3 := BG2.out.fz 3
            have p0 := BP2.out.get (j := 0) rfl
            have p1 := BP2.out.get (j := 1) rfl
            go_upto_region 9 with (fail)
            have hWn : Bk (W6.alloc (Obj.cells #[Value.string x, Value.int .i64 v] 101)).drew W6.heap.size [.string x, .int .i64 v] := (Bk.new rfl).later (Below.refl _ _).drew
            have hbd2 : Below W6.heap.size W6 (W6.alloc (Obj.cells #[Value.string x, Value.int .i64 v] 101)).drew := ((Below.refl _ _).alloc (Nat.le_refl _) _).drew
            have HNW : Hid (∀ (j : Nat) (u : Value), (encP (x, v))[j]? = some u → (W6.alloc (Obj.cells #[Value.string x, Value.int .i64 v] 101)).drew.cell? ((⟨W6.heap.size, 0, none⟩ : Addr).add j) = some u) := by
              intro j u hj
              have h2 := hWn.get (j := j) hj
              have h3 : (⟨W6.heap.size, 0, none⟩ : Addr).add j = ⟨W6.heap.size, j, none⟩ := by
                rcases j with _ | j <;> simp [Addr.add]
              rw [h3]; exact h2
            have hbw9 : b < W6.heap.size := by have h1 := BP2.out.lt; omega
            have hb9 : base ≤ (W6.alloc (Obj.cells #[Value.string x, Value.int .i64 v] 101)).drew.heap.size := by have h1 := BP2.out.lt; have h2 := hbd2.size; omega
            have hsz9 : W6.heap.size ≤ (W6.alloc (Obj.cells #[Value.string x, Value.int .i64 v] 101)).drew.heap.size := hbd2.size
            have HFIN := hide fun v' w1 ho hg hat => step_grown (va := va) (w := w) (v' := v') (w1 := w1) LO.out hn2 (Nat.lt_of_lt_of_le hbw9 hsz9) (BG2.out.later hbd2) (SL2.out.later hbd2 (Nat.le_refl _)) APT.out HV.out (KP2.out.trans (KeptBut.of_below hbd2 (Nat.le_refl _))) (p := (x, v)) ho hg hat
            have HOW := hide (OW2.out.later hbd2)
            have HNX : Hid (Stand kind L n1 (c + (j + 1))) := HS.out.next hn hn2 (by rw [hgs.out, HOO.out]) HBK.out
            have HOX : Hid ((groups kind L).take (c + (j + 1)) = out ++ [(x, v)]) := by
              show _ = _
              rw [← HNX.out.out, hgs.out]
            have HONE := hide (show ∀ u ∈ encP (x, v), u.oneCell' = true by simp [encP, Value.oneCell'])
            have HLEN := hide (show out.length + 1 ≤ 1000000000 by omega)
            have a3 := cell_later (((Below.refl W6.heap.size W6).alloc (Nat.le_refl _) (Obj.cells #[Value.string x, Value.int .i64 v] 101))) c3
            have HB9 := hide hb9
            clear hWn hbd2 hbw9 hb9 hsz9 BG2 BP2 SL2 OW2 KP2
            go_region_law (refine step_append_one (enc := encP) encP_len _ _ 53 i0 _ rfl rfl Tryz.underlying53 hi hz0 hz1 hz2 rfl (by decide) (by decide) HOW.out (Below.refl _ _) HB9.out HLEN.out rfl (x, v) ⟨W6.heap.size, 0, none⟩ 1 rfl HNW.out HONE.out ?_; intro v' w1 hown1 hb1 hgr hat; obtain ⟨hra, hv1, hk1, z3, c3⟩ := HFIN.out v' w1 hown1 hgr (by simpa using hat); obtain ⟨ao', cap', rfl⟩ := id hown1.1; rw [show (out ++ [(x, v)]).length = out.length + 1 by simp] at hra hv1 hk1; have HRA := hide hra; have HV1 := hide hv1; have HK1 := hide hk1; clear hown1 hb1 hgr hat hra hv1 hk1)
            all_goals
              go_wp2
              go_roundw
              case rel => exact ⟨j + 1, n1, .slice ao' (out.length + 1) cap', by omega, by go_num, (by rw [HOX.out]; exact HRA), HNX, HV1, HK1.out⟩
              case measure => simp [intOf]; omega
      · have hnL : n' = L.length := by omega
        have e1 : decide (j < M) = true := by simp; omega
        have e2 : ((n' : Int) == (L.length : Int)) = true := by rw [hnL, beq_iff_eq]
        have e3 : (n' == L.length) = true := by rw [hnL, beq_iff_eq]
        have HNL := hide hnL
        clear hn hnL
        go_wp2_with fail
        go_quiet (fail)
        have HR2 := hide (HR.out.later (below_drewN (Below.refl _ _) nq))
        have HKP2 := hide (HKP.out.drewN nq)
        generalize wr.drewN nq = W2 at *
        clear c0 c1 c2 c3
        have c0 := HR2.out.bk.get (j := 0) rfl
        have c1 := HR2.out.bk.get (j := 1) rfl
        have c2 := HR2.out.bk.get (j := 2) rfl
        have c3 := HR2.out.bk.get (j := 3) rfl
        go_upto_region 11 with (fail)
        go_quiet (fail)
        go_wp2
        go_ret
        have hnL := HNL.out
        subst hnL
        obtain ⟨hs2, ho2⟩ := HS.out.more (d := c + M) (by omega)
        exact step_end (by simp) (by rw [← ho2, HOO.out]; exact HR2.out) hs2 HV.out HKP2.out _
    · obtain rfl : j = M := by omega
      have f1 : decide (j < j) = false := by simp
      go_wp2_with fail
      go_quiet (fail)
      go_wp2
      go_ret
      exact step_end (by
        by_cases e : n' = L.length <;> simp [e] <;> omega) (by rw [HOO.out]; exact HR.out) HS.out HV.out HKP.out nq
end Go.Proofs.YtgeedjlbajmdkaaGreatDoor
