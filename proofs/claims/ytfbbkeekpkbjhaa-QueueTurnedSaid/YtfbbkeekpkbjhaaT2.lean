/- QueueTurned walked. -/
import Derived.Test.YtfbbkeekpkbjhaaL2
namespace Go.Proofs.Ytfbbkeekpkbjhaa
open Go.RowKit
theorem QS.mono {B C : Nat} {w : World} {q r : Nat} {hv : Value} {room : Int} {n : Nat} {f : Nat → Ev} {m : Int → Int → Option Nat} (h : QS C w q r hv room n f m) (k : B ≤ C) : QS B w q r hv room n f m :=
  ⟨h.qb, h.mr, h.mo, h.od, h.hp.imp id fun ⟨g, cap, e, hr, hb⟩ => ⟨g, cap, e, hr, by omega⟩, by have := h.bq; omega, by have := h.br; omega⟩
theorem pop_ok2 (B q r n : Nat) (hv : Value) (room : Int) (f : Nat → Ev) (m : Int → Int → Option Nat) (w : World) (h : QS B w q r hv room (n + 1) f m) (hB : B ≤ w.heap.size) (hn : n + 1 ≤ 65536) :
    Calls Try.prog 10 #[.pointer (some ⟨q, 0, none⟩)] w fun x w' => x = .returned (.tuple #[.agg (evV (f 0)), .bool true]) ∧ (∃ hv' f' m', QS B w' q r hv' room n f' m' ∧ hv'.ownBlock = hv.ownBlock ∧ (∀ x, Mem n f' x ↔ Mem (n + 1) f x ∧ x ≠ f 0)) ∧ QF B w w' q r hv := by
  obtain ⟨g, cap, rfl, hq, hb⟩ := h.rep (by omega)
  refine (pop_walk q r room g cap n f m w hq h.mo h.od hn).mono fun x w' ⟨hx, ⟨f', m', h', hmo, hod, hs⟩, hf⟩ => ?_
  refine ⟨hx, ⟨_, f', m', ⟨h'.qb, h'.mr, hmo, hod, Or.inr ⟨g, cap, rfl, h'.hr, hb⟩, h.bq, h.br⟩, rfl, fun y => ?_⟩, QF.of_fr hf hB h.bq h.br hb (Or.inl rfl)⟩
  constructor
  · intro hy
    obtain ⟨j, hj, rfl⟩ := (hs y).2 hy
    have key : ∃ i, 0 < i ∧ i < n + 1 ∧ swp f 0 n j = f i := by
      by_cases h0 : j = 0
      · subst h0; exact ⟨n, by omega, by omega, swp_i⟩
      · exact ⟨j, by omega, by omega, swp_o h0 (by omega)⟩
    obtain ⟨i, i0, i1, e⟩ := key
    rw [e]
    refine ⟨⟨i, i1, rfl⟩, fun e => ?_⟩
    have := h.mo.inj (i := i) (j := 0) i1 (by omega) ⟨by rw [e], by rw [e]⟩
    omega
  · rintro ⟨⟨i, hi, rfl⟩, hne⟩
    refine (hs _).1 ?_
    have hi0 : i ≠ 0 := fun e => hne (by rw [e])
    by_cases hin : i = n
    · subst hin
      exact ⟨0, by omega, swp_i⟩
    · exact ⟨i, by omega, swp_o hi0 hin⟩
theorem drop_pop {L : List Ev} (hL : L.Pairwise ltE) {k n : Nat} {f f' : Nat → Ev} (hx : ∀ x, Mem (n + 1) f x ↔ x ∈ L.drop k) (hk : k < L.length) (h0 : L[k]? = some (f 0)) (hs : ∀ x, Mem n f' x ↔ Mem (n + 1) f x ∧ x ≠ f 0) : ∀ x, Mem n f' x ↔ x ∈ L.drop (k + 1) := by
  intro x
  have hd : L.drop k = L[k] :: L.drop (k + 1) := List.drop_eq_getElem_cons hk
  have h0' : L[k] = f 0 := by rw [List.getElem?_eq_getElem hk] at h0; exact Option.some.inj h0
  have hp : (L.drop k).Pairwise ltE := hL.sublist (List.drop_sublist _ _)
  rw [hs, hx, hd, h0']
  rw [hd, h0'] at hp
  obtain ⟨p1, _⟩ := List.pairwise_cons.1 hp
  constructor
  · rintro ⟨h, hne⟩
    rcases List.mem_cons.1 h with c | c
    · exact absurd c hne
    · exact c
  · intro h
    exact ⟨List.mem_cons_of_mem _ h, fun e => by subst e; exact absurd (p1 _ h) (ltE_irrefl _)⟩
/-- The event laid for the j'th number. -/
def evt (xs : List Int) (j : Nat) : Ev := ⟨(IntKind.u64.wrap (xs.getD j 0)).tmod 50, (j : Int).tmod 7, j⟩
def Turn (B : Nat) (w : World) (xs : List Int) (n QA RA QB RB : Nat) (i : Nat) (wr : World) : Prop :=
  ∃ (ha hb : Value) (fa fb : Nat → Ev) (ma mb : Int → Int → Option Nat), QS B wr QA RA ha 100 i fa ma ∧ QS B wr QB RB hb 100 i fb mb ∧ Apart QA RA ha QB RB hb ∧ (∀ x, Mem i fa x ↔ ∃ j, j < i ∧ evt xs j = x) ∧ (∀ x, Mem i fb x ↔ ∃ j, n - i ≤ j ∧ j < n ∧ evt xs j = x) ∧ Below B w wr
theorem turn0 {w w1 w2 : World} {xs : List Int} {n : Nat} {ha hb : Value} {fa fb : Nat → Ev} {ma mb : Int → Int → Option Nat} (h1 : QS w.heap.size w1 (w.heap.size + 1) w.heap.size ha 100 0 fa ma) (B1 : Below w.heap.size w w1) (h2 : QS w1.heap.size w2 (w1.heap.size + 1) w1.heap.size hb 100 0 fb mb) (B2 : Below w1.heap.size w1 w2) (e1 : ha.ownBlock = none) (e2 : hb.ownBlock = none) :
    Turn w.heap.size w xs n (w.heap.size + 1) w.heap.size (w1.heap.size + 1) w1.heap.size 0 w2 := by
  have z1 := h1.qb.lt
  refine ⟨ha, hb, fa, fb, ma, mb, h1.below B2, h2.mono B1.size, ?_, fun x => ⟨fun ⟨i, hi, _⟩ => by omega, fun ⟨i, hi, _⟩ => by omega⟩, fun x => ⟨fun ⟨i, hi, _⟩ => by omega, fun ⟨i, hi, hj, _⟩ => by omega⟩, below_trans B1 B2⟩
  intro k hk
  rw [e1]
  rcases hk with rfl | rfl | hk
  · exact ⟨by omega, by omega, by simp⟩
  · exact ⟨by omega, by omega, by simp⟩
  · rw [e2] at hk; cases hk
theorem cellsE_at : ∀ (L : List Ev) (i : Nat), i < L.length → (cellsE L)[i * 3]? = some (.int .i64 (L.getD i ⟨0, 0, 0⟩).t) ∧ (cellsE L)[i * 3 + 1]? = some (.int .i64 (L.getD i ⟨0, 0, 0⟩).k) ∧ (cellsE L)[i * 3 + 2]? = some (.int .i64 (L.getD i ⟨0, 0, 0⟩).d)
  | [], i, h => by simp at h
  | e :: L, 0, _ => by unfold cellsE encE3; simp
  | e :: L, i + 1, h => by
    have := cellsE_at L i (by simpa using h)
    have e0 : cellsE (e :: L) = .int .i64 e.t :: .int .i64 e.k :: .int .i64 e.d :: cellsE L := by unfold cellsE encE3; simp
    have e1 : (i + 1) * 3 = i * 3 + 3 := by omega
    rw [e0, e1]
    simpa using this
theorem lst_heap {w : World} {B n : Nat} {v : Value} {L : List Ev} (h : w.ownsRow B 31 3 v n (cellsE L)) (hl : L.length = n) (h0 : 0 < n) : ∃ g cap, v = .slice (some ⟨g, 0, none⟩) n cap ∧ B ≤ g ∧ HeapRep w g cap n (fun i => L.getD i ⟨0, 0, 0⟩) := by
  rcases h.2 with ⟨_, c⟩ | ⟨g, cap, cur, e, hB, hb, h1, h2, h3, h4⟩
  · omega
  · refine ⟨g, cap, e, hB, cur, hb, h3, h1, h2, fun i hi => ?_⟩
    obtain ⟨a, b, c⟩ := cellsE_at L i (by omega)
    rw [← h4] at a b c
    rw [List.getElem?_take_of_lt (by omega), Array.getElem?_toList] at a b c
    exact ⟨a, b, c⟩
def Off (g q r : Nat) (h : Value) : Prop := g ≠ q ∧ g ≠ r ∧ h.ownBlock ≠ some g
/-- A list of events at hand beside two queues. -/
def LHeld (w : World) (v : Value) (M : Nat) (L : List Ev) (qa ra : Nat) (ha : Value) (qb rb : Nat) (hb : Value) : Prop :=
  (∃ A c, v = .slice A M c) ∧ (0 < M → ∃ g cap, v = .slice (some ⟨g, 0, none⟩) M cap ∧ HeapRep w g cap M (fun i => L.getD i ⟨0, 0, 0⟩) ∧ Off g qa ra ha ∧ Off g qb rb hb)
theorem LHeld.swap {w : World} {v : Value} {M : Nat} {L : List Ev} {qa ra : Nat} {ha : Value} {qb rb : Nat} {hb : Value} (h : LHeld w v M L qa ra ha qb rb hb) : LHeld w v M L qb rb hb qa ra ha :=
  ⟨h.1, fun h0 => let ⟨g, c, e, hr, o1, o2⟩ := h.2 h0; ⟨g, c, e, hr, o2, o1⟩⟩
theorem LHeld.below {w w' : World} {v : Value} {M : Nat} {L : List Ev} {qa ra : Nat} {ha : Value} {qb rb : Nat} {hb : Value} (h : LHeld w v M L qa ra ha qb rb hb) (k : Below w.heap.size w w') : LHeld w' v M L qa ra ha qb rb hb :=
  ⟨h.1, fun h0 => let ⟨g, c, e, hr, o1, o2⟩ := h.2 h0; ⟨g, c, e, hr.of_block (k.block _ hr.lt), o1, o2⟩⟩
theorem LHeld.pop {B : Nat} {w w' : World} {v : Value} {M : Nat} {L : List Ev} {qa ra : Nat} {ha ha' : Value} {qb rb : Nat} {hb : Value} (h : LHeld w v M L qa ra ha qb rb hb) (k : QF B w w' qa ra ha) (e' : ha'.ownBlock = ha.ownBlock) : LHeld w' v M L qa ra ha' qb rb hb :=
  ⟨h.1, fun h0 => let ⟨g, c, e, hr, o1, o2⟩ := h.2 h0; ⟨g, c, e, hr.of_block (k.far _ hr.lt o1.1 o1.2.1 o1.2.2), ⟨o1.1, o1.2.1, by rw [e']; exact o1.2.2⟩, o2⟩⟩
theorem lheld_of {B : Nat} {w w0 : World} {v : Value} {M : Nat} {L : List Ev} {qa ra : Nat} {ha : Value} {qb rb : Nat} {hb : Value} {na nb : Nat} {fa fb : Nat → Ev} {ma mb : Int → Int → Option Nat} {room : Int} (h : w.ownsRow w0.heap.size 31 3 v M (cellsE L)) (hl : L.length = M) (h1 : QS B w0 qa ra ha room na fa ma) (h2 : QS B w0 qb rb hb room nb fb mb) : LHeld w v M L qa ra ha qb rb hb := by
  refine ⟨?_, fun h0 => ?_⟩
  · rcases h.2 with ⟨e, c⟩ | ⟨g, cap, cur, e, _⟩
    · exact ⟨_, _, by rw [e, c]⟩
    · exact ⟨_, _, e⟩
  · obtain ⟨g, cap, e, hB, hr⟩ := lst_heap h hl h0
    exact ⟨g, cap, e, hr, h1.fresh hB, h2.fresh hB⟩
def Turn2 (B : Nat) (w : World) (L : List Ev) (n QA RA QB RB : Nat) (v1 v2 : Value) (k : Nat) (wr : World) : Prop :=
  ∃ (ha hb : Value) (fa fb : Nat → Ev) (ma mb : Int → Int → Option Nat), QS B wr QA RA ha 100 (n - k) fa ma ∧ QS B wr QB RB hb 100 (n - k) fb mb ∧ Apart QA RA ha QB RB hb ∧ (∀ x, Mem (n - k) fa x ↔ x ∈ L.drop k) ∧ (∀ x, Mem (n - k) fb x ↔ x ∈ L.drop k) ∧ LHeld wr v1 n L QA RA ha QB RB hb ∧ LHeld wr v2 n L QA RA ha QB RB hb ∧ Below B w wr
theorem Turn2.drewN {B : Nat} {w wr : World} {L : List Ev} {n QA RA QB RB : Nat} {v1 v2 : Value} {k : Nat} (h : Turn2 B w L n QA RA QB RB v1 v2 k wr) (t : Nat) : Turn2 B w L n QA RA QB RB v1 v2 k (wr.drewN t) := by
  obtain ⟨ha, hb, fa, fb, ma, mb, qa, qb, ap, sa, sb, l1, l2, bel⟩ := h
  have k := below_drewN (Below.refl wr.heap.size wr) t
  exact ⟨ha, hb, fa, fb, ma, mb, qa.below k, qb.below k, ap, sa, sb, l1.below k, l2.below k, below_drewN bel t⟩
set_option maxRecDepth 100000 in
set_option maxHeartbeats 2000000 in
theorem turned_walk (A : Option Addr) (N cap : Nat) (xs : List Int) (w : World) (hi : Ints w A N xs) :
    Calls Try.prog 4 #[.slice A N cap] w fun x w' => x = .returned (.bool true) ∧ Below w.heap.size w w' := by
  have HI := Lib.hid hi
  clear hi
  go_enter Try.func4, Try.ntmps4
  go_wp2_with (fail)
  refine (new_qs 100 w (by omega) (by omega)).mono ?_
  rintro x w1 ⟨rfl, h1, B1⟩
  have H1 := Lib.hid h1
  clear h1
  go_wp2_with (fail)
  refine (new_qs 100 w1 (by omega) (by omega)).mono ?_
  rintro x w2 ⟨rfl, h2, B2⟩
  have T0 := Lib.hid (turn0 (xs := xs) (n := min N 100) H1.out B1 h2 B2 rfl rfl)
  have BW := below_trans B1 B2
  clear H1 h2 B1 B2
  generalize w1.heap.size = RB at *
  go_upto_region 7 with (fail)
  obtain ⟨M, hM, hMN, hM1, hM2⟩ : ∃ M : Nat, min (N : Int) 100 = (M : Int) ∧ min N 100 = M ∧ M ≤ N ∧ M ≤ 100 := ⟨min N 100, by omega, rfl, by omega, by omega⟩
  rw [hM]
  rw [hMN] at T0
  generalize hQA : w.heap.size + 1 = QA at *
  generalize hB : w.heap.size = B at *
  have HQA := Lib.hid hQA
  clear hQA hM hMN
  go_loopw [8] (fun iv wr => ∃ i : Nat, i ≤ M ∧ iv = .int .i64 i ∧ Turn B w xs M QA B (RB + 1) RB i wr) (fun iv _ => M - (intOf iv).toNat)
  case atStart => exact ⟨0, by omega, rfl, T0.out⟩
  case round =>
    clear T0
    obtain ⟨i, hi, rfl, hT⟩ := hrel
    have k0 : (0 : Int) ≤ i := by omega
    by_cases hlt : i < M
    · obtain ⟨ha, hb, fa, fb, ma, mb, qa, qb, ap, sa, sb, bel⟩ := hT
      obtain ⟨ad, rfl, hadl, hc⟩ := HI.out.2.2.2 (by omega)
      have hlt' : (i : Int) < M := by omega
      have hBw : B ≤ wr.heap.size := by have := bel.size; omega
      have hadB : ad.block < B := by omega
      obtain ⟨j, hj, hji⟩ : ∃ j : Nat, (M : Int) - 1 - i = (j : Int) ∧ j = M - 1 - i := ⟨M - 1 - i, by omega, rfl⟩
      subst hji
      have hjM : M - 1 - i < M := by omega
      have c0 : wr.cell? (ad.add i) = some (.int .i64 (xs.getD i 0)) := (bel.cell (by rw [add_block]; exact hadB)).trans (hc i (by omega))
      have c1 : wr.cell? (ad.add (M - 1 - i : Nat)) = some (.int .i64 (xs.getD (M - 1 - i) 0)) := (bel.cell (by rw [add_block]; exact hadB)).trans (hc (M - 1 - i) (by omega))
      obtain ⟨p0, p1⟩ := u64m_bd (xs.getD i 0) 50 (by decide)
      obtain ⟨q0, q1⟩ := u64m_bd (xs.getD (M - 1 - i) 0) 50 (by decide)
      have r0 : 0 ≤ (i : Int).tmod 7 ∧ (i : Int).tmod 7 < 7 := by rw [Int.tmod_eq_emod_of_nonneg k0]; omega
      have r1 : 0 ≤ ((M - 1 - i : Nat) : Int).tmod 7 ∧ ((M - 1 - i : Nat) : Int).tmod 7 < 7 := by rw [Int.tmod_eq_emod_of_nonneg (by omega)]; omega
      have NA : ma (evt xs i).k (evt xs i).d = none := qa.none_of (fun x hx hk => by
        obtain ⟨t, ht, rfl⟩ := (sa x).1 hx
        have := hk.2
        unfold evt at this
        simp only at this
        omega)
      have SA := Lib.hid (set_new_ok B QA B i ha 100 fa ma (evt xs i) wr qa hBw (by decide) (by omega) NA p0 (by unfold evt; simp only; omega) r0.1 (by unfold evt; simp only; omega))
      unfold evt at SA
      simp only at SA
      have e1 : IntKind.i64.wrap ((IntKind.u64.wrap (xs.getD i 0)).tmod 50) = (IntKind.u64.wrap (xs.getD i 0)).tmod 50 := by rw [IntKind.wrap_i64]; omega
      have e2 : IntKind.i64.wrap ((IntKind.u64.wrap (xs.getD (M - 1 - i) 0)).tmod 50) = (IntKind.u64.wrap (xs.getD (M - 1 - i) 0)).tmod 50 := by rw [IntKind.wrap_i64]; omega
      have zad : ad.block < wr.heap.size := by omega
      have zbi := HI.out.2.2.1 i (by omega)
      have zbj := HI.out.2.2.1 (M - 1 - i) (by omega)
      have QB := Lib.hid qb
      have BEL := Lib.hid bel
      have SS := Lib.hid (And.intro sa sb)
      have AP := Lib.hid ap
      clear qa qb bel sa sb NA ap hc
      generalize hx : xs.getD i 0 = x at *
      generalize hy : xs.getD (M - 1 - i) 0 = y at *
      go_wp2_with (fail)
      refine SA.out.mono ?_
      rintro v w3 ⟨rfl, ⟨ha', fa', ma', qa', owa, sa'⟩, FA⟩
      have qb3 := QB.out.other FA AP.out
      have ap3 := AP.out.turn QB.out owa
      have BEL3 := Lib.hid (BEL.out.trans (FA.bel))
      have hBw3 : B ≤ w3.heap.size := Nat.le_trans hBw FA.bel.size
      have zad3 : ad.block < w3.heap.size := by omega
      have c3 : w3.cell? (ad.add (M - 1 - i : Nat)) = some (.int .i64 y) := (FA.bel.cell (by rw [add_block]; exact hadB)).trans c1
      have NB : mb (evt xs (M - 1 - i)).k (evt xs (M - 1 - i)).d = none := qb3.none_of (fun x hx hk => by
        obtain ⟨t, ht, ht2, rfl⟩ := (SS.out.2 x).1 hx
        have := hk.2
        unfold evt at this
        simp only at this
        omega)
      have SB := Lib.hid (set_new_ok B (RB + 1) RB i hb 100 fb mb (evt xs (M - 1 - i)) w3 qb3 hBw3 (by decide) (by omega) NB (by unfold evt; simp only; rw [hy]; omega) (by unfold evt; simp only; rw [hy]; omega) r1.1 (by unfold evt; simp only; omega))
      unfold evt at SB
      simp only [hy] at SB
      have QA3 := Lib.hid qa'
      have AP3 := Lib.hid ap3
      have SA3 := Lib.hid sa'
      clear qa' qb3 ap3 sa' SA FA AP QB BEL NB c0 c1 zad
      go_wp2_with (fail)
      refine SB.out.mono ?_
      rintro v w4 ⟨rfl, ⟨hb', fb', mb', qb', owb, sb'⟩, FB⟩
      have qa4 := QA3.out.other FB AP3.out.symm
      have ap4 := (AP3.out.symm.turn QA3.out owb).symm
      have BEL4 := Lib.hid (BEL3.out.trans FB.bel)
      have TT := Lib.hid (show Turn B w xs M QA B (RB + 1) RB (i + 1) w4 by
        refine ⟨ha', hb', fa', fb', _, _, qa4, qb', ap4, fun z => ?_, fun z => ?_, BEL4.out⟩
        · rw [SA3.out z, SS.out.1 z]
          constructor
          · rintro (e | ⟨t, ht, e⟩)
            · exact ⟨i, by omega, by rw [e]; unfold evt; rw [hx]⟩
            · exact ⟨t, by omega, e⟩
          · rintro ⟨t, ht, e⟩
            by_cases hti : t = i
            · left; rw [← e, hti]; unfold evt; rw [hx]
            · right; exact ⟨t, by omega, e⟩
        · rw [sb' z, SS.out.2 z]
          constructor
          · rintro (e | ⟨t, ht, ht2, e⟩)
            · exact ⟨M - 1 - i, by omega, by omega, by rw [e]; unfold evt; rw [hy]⟩
            · exact ⟨t, by omega, by omega, e⟩
          · rintro ⟨t, ht, ht2, e⟩
            by_cases hti : t = M - 1 - i
            · left; rw [← e, hti]; unfold evt; rw [hy]
            · right; exact ⟨t, by omega, by omega, e⟩)
      clear qa4 qb' ap4 sb' SB FB BEL4 BEL3 QA3 AP3 SA3 SS owa owb c3 zad3
      go_wp2_with (fail)
      go_roundw
      case rel => exact ⟨i + 1, by omega, by go_num, TT.out⟩
      case measure => simp [intOf]; omega
    · obtain rfl : i = M := by omega
      obtain ⟨ha, hb, fa, fb, ma, mb, qa, qb, ap, sa, sb, bel⟩ := hT
      have hBw : B ≤ wr.heap.size := by have := bel.size; omega
      have LA := Lib.hid (list_ok B QA B i ha 100 fa ma wr qa (by omega))
      have hsame : ∀ z, Mem i fa z ↔ Mem i fb z := fun z => by
        rw [sa z, sb z]
        exact ⟨fun ⟨t, h, e⟩ => ⟨t, by omega, h, e⟩, fun ⟨t, h, h2, e⟩ => ⟨t, h2, e⟩⟩
      clear sa sb HI
      go_wp2_with (fail)
      refine LA.out.mono ?_
      rintro v w3 ⟨v1, L, rfl, hp, hm, hl, hown, B3⟩
      have LB := Lib.hid (list_ok B (RB + 1) RB i hb 100 fb mb w3 (qb.below B3) (by omega))
      have LH := lheld_of hown hl qa qb
      have qa3 := qa.below B3
      have qb3 := qb.below B3
      have bel3 := bel.trans (B3.mono hBw)
      have hBw3 : B ≤ w3.heap.size := Nat.le_trans hBw B3.size
      clear LA hown qa qb bel B3
      go_wp2_with (fail)
      refine LB.out.mono ?_
      rintro v w4 ⟨v2, L2, rfl, hp2, hm2, hl2, hown2, B4⟩
      obtain rfl : L = L2 := asc_uniq hp hp2 (fun z => by rw [hm, hm2, hsame])
      have LH2 := lheld_of hown2 hl qa3 qb3
      have bel4 := bel3.trans (B4.mono hBw3)
      have TT := Lib.hid (show Turn2 B w L i QA B (RB + 1) RB v1 v2 0 w4 from ⟨ha, hb, fa, fb, ma, mb, qa3.below B4, qb3.below B4, ap, fun z => (hm z).symm, fun z => (hm2 z).symm, LH.below B4, LH2, bel4⟩)
      obtain ⟨A1, c1, rfl⟩ := LH.1
      obtain ⟨A2, c2, rfl⟩ := LH2.1
      clear qa3 qb3 ap LH LH2 hown2 hm hm2 hl2 hsame LB B4 bel4 bel3 hp2
      have HP := Lib.hid (And.intro hp hl)
      clear hp hl
      have ee : ((i : Int) != i) = false := by simp
      go_upto_region 16 with (fail)
      go_loopw [12] (fun iv wr => ∃ k : Nat, k ≤ i ∧ iv = .int .i64 k ∧ Turn2 B w L i QA B (RB + 1) RB (.slice A1 i c1) (.slice A2 i c2) k wr) (fun iv _ => i - (intOf iv).toNat)
      case atStart => exact ⟨0, by omega, rfl, TT.out⟩
      case round =>
        clear TT
        obtain ⟨k, hk, rfl, hT⟩ := hrel
        have k0 : (0 : Int) ≤ k := by omega
        by_cases hki : k < i
        · have hki' : (k : Int) < i := by omega
          obtain ⟨ha, hb, fa, fb, ma, mb, qa, qb, ap, sa, sb, l1, l2, bel⟩ := hT
          obtain ⟨t, ht⟩ : ∃ t, i - k = t + 1 := ⟨i - k - 1, by omega⟩
          have ht' : i - (k + 1) = t := by omega
          rw [ht] at qa qb sa sb
          have hBw : B ≤ wr.heap.size := by have := bel.size; omega
          have e0 := least_drop HP.out.1 qa.od sa (by rw [HP.out.2]; exact hki)
          have e0b := least_drop HP.out.1 qb.od sb (by rw [HP.out.2]; exact hki)
          have PA := Lib.hid (pop_ok2 B QA B t ha 100 fa ma wr qa hBw (by omega))
          have PBf := Lib.hid (fun w h hB => pop_ok2 B (RB + 1) RB t hb 100 fb mb w h hB (by omega))
          have DA := Lib.hid (fun f' => drop_pop (f' := f') HP.out.1 sa (by rw [HP.out.2]; exact hki) e0)
          have DB := Lib.hid (fun f' => drop_pop (f' := f') HP.out.1 sb (by rw [HP.out.2]; exact hki) e0b)
          have hE : L.getD k ⟨0, 0, 0⟩ = fa 0 := by rw [List.getD_eq_getElem?_getD, e0]; rfl
          have hEb : fb 0 = fa 0 := by rw [e0] at e0b; exact (Option.some.inj e0b).symm
          rw [hEb] at PBf DB
          obtain ⟨g1, cap1, g1e, hr1, o1, o1'⟩ := l1.2 (by omega)
          obtain ⟨g2, cap2, g2e, hr2, o2, o2'⟩ := l2.2 (by omega)
          injection g1e with g1a g1b g1c
          injection g2e with g2a g2b g2c
          subst g1a
          subst g2a
          have QB := Lib.hid qb
          have AP := Lib.hid ap
          have L1 := Lib.hid l1
          have L2 := Lib.hid l2
          have BEL := Lib.hid bel
          clear qa qb ap sa sb l1 l2 bel e0 e0b hEb hr1 o1 o1' hr2 o2 o2'
          generalize hEE : fa 0 = E at *
          go_wp2_with (fail)
          refine PA.out.mono ?_
          rintro v w1 ⟨rfl, ⟨ha', fa', ma', qa1, owa, sa1⟩, FA⟩
          have qb1 := QB.out.other FA AP.out
          have ap1 := AP.out.turn QB.out (fun k h => .inl (by rw [owa] at h; exact h))
          have l11 := L1.out.pop FA owa
          have l21 := L2.out.pop FA owa
          have bel1 := BEL.out.trans FA.bel
          have hBw1 : B ≤ w1.heap.size := Nat.le_trans hBw FA.bel.size
          have SA1 := Lib.hid (DA.out fa' sa1)
          clear PA QB AP L1 L2 BEL FA DA sa1
          unfold evV
          go_upto_region 19 with (fail)
          have bx := Blk.new w1 31 (evV E)
          have BX := below_al (Below.refl w1.heap.size w1) (.cells (evV E) 31)
          have qa2 := qa1.below BX
          have qb2 := qb1.below BX
          have l12 := l11.below BX
          have l22 := l21.below BX
          have bel2 := bel1.trans (BX.mono hBw1)
          have FP := Lib.hid (And.intro (qa1.fresh (Nat.le_refl w1.heap.size)) (qb1.fresh (Nat.le_refl w1.heap.size)))
          clear qa1 qb1 l11 l21 bel1 BX
          unfold evV at bx qa2 qb2 l12 l22 bel2
          generalize hW2 : w1.alloc (Obj.cells #[Value.int IntKind.i64 E.t, Value.int IntKind.i64 E.k, Value.int IntKind.i64 E.d] 31) = W2 at *
          have hBw2 : B ≤ W2.heap.size := by have := bx.lt; omega
          generalize hp : w1.heap.size = p at *
          have PB := Lib.hid (PBf.out W2 qb2 hBw2)
          have QA2 := Lib.hid (And.intro qa2 qb2)
          have LL := Lib.hid (And.intro l12 l22)
          have AP := Lib.hid ap1
          have BX := Lib.hid bx
          have BEL := Lib.hid bel2
          have zp := bx.lt
          clear qa2 qb2 l12 l22 ap1 bel2 PBf hW2 hp bx
          go_wp2_with (fail)
          refine PB.out.mono ?_
          rintro v w3 ⟨rfl, ⟨hb', fb', mb', qb3, owb, sb3⟩, FB⟩
          have qa3 := QA2.out.1.other FB AP.out.symm
          have ap3 := (AP.out.symm.turn QA2.out.1 (fun k h => .inl (by rw [owb] at h; exact h))).symm
          have l13 := (LL.out.1.swap.pop FB owb).swap
          have l23 := (LL.out.2.swap.pop FB owb).swap
          have bx3 : Blk w3 p 31 (evV E) := (FB.far p zp FP.out.2.1 FP.out.2.2.1 FP.out.2.2.2).trans BX.out
          have bel3 := BEL.out.trans FB.bel
          have hBw3 : B ≤ w3.heap.size := Nat.le_trans hBw2 FB.bel.size
          have SB3 := Lib.hid (DB.out fb' sb3)
          clear PB QA2 LL AP BX BEL FB DB sb3 FP zp
          unfold evV
          go_upto_region 20 with (fail)
          have by3 := Blk.new w3 31 (evV E)
          have BY := below_al (Below.refl w3.heap.size w3) (.cells (evV E) 31)
          have TT := Lib.hid (show Turn2 B w L i QA B (RB + 1) RB (.slice (some ⟨g1, 0, none⟩) i c1) (.slice (some ⟨g2, 0, none⟩) i c2) (k + 1) (w3.alloc (.cells (evV E) 31)) from ⟨ha', hb', fa', fb', _, _, by rw [ht']; exact qa3.below BY, by rw [ht']; exact qb3.below BY, ap3, by rw [ht']; exact SA1.out, by rw [ht']; exact SB3.out, l13.below BY, l23.below BY, bel3.trans (BY.mono hBw3)⟩)
          have bx4 := bx3.below BY
          have hr1 : HeapRep (w3.alloc (.cells (evV E) 31)) g1 cap1 i (fun i => L.getD i ⟨0, 0, 0⟩) := by
            obtain ⟨g, c, e, hr, _⟩ := (l13.below BY).2 (by omega)
            injection e with e1 e2 e3
            injection e1 with e1
            injection e1 with e1
            subst e1; rw [g1c, ← e3] at *; exact hr
          have hr2 : HeapRep (w3.alloc (.cells (evV E) 31)) g2 cap2 i (fun i => L.getD i ⟨0, 0, 0⟩) := by
            obtain ⟨g, c, e, hr, _⟩ := (l23.below BY).2 (by omega)
            injection e with e1 e2 e3
            injection e1 with e1
            injection e1 with e1
            subst e1; rw [g2c, ← e3] at *; exact hr
          clear qa3 qb3 ap3 SA1 SB3 l13 l23 bel3 BY bx3
          unfold evV at by3 bx4 TT hr1 hr2
          generalize hW4 : w3.alloc (Obj.cells #[Value.int IntKind.i64 E.t, Value.int IntKind.i64 E.k, Value.int IntKind.i64 E.d] 31) = W4 at *
          generalize hp4 : w3.heap.size = p4 at *
          clear hW4 hp4
          have x0 : W4.cell? ⟨p, 0, none⟩ = some (.int .i64 E.t) := by rw [bx4.cell]; rfl
          have x1 : W4.cell? ⟨p, 1, none⟩ = some (.int .i64 E.k) := by rw [bx4.cell]; rfl
          have x2 : W4.cell? ⟨p, 2, none⟩ = some (.int .i64 E.d) := by rw [bx4.cell]; rfl
          have y0 : W4.cell? ⟨p4, 0, none⟩ = some (.int .i64 E.t) := by rw [by3.cell]; rfl
          have y1 : W4.cell? ⟨p4, 1, none⟩ = some (.int .i64 E.k) := by rw [by3.cell]; rfl
          have y2 : W4.cell? ⟨p4, 2, none⟩ = some (.int .i64 E.d) := by rw [by3.cell]; rfl
          have zp := bx4.lt
          have zp4 := by3.lt
          have zg1 := hr1.lt
          have zg2 := hr2.lt
          obtain ⟨a0, a1, a2⟩ := hr1.cells hki
          obtain ⟨b0, b1, b2⟩ := hr2.cells hki
          simp only [hE] at a0 a1 a2 b0 b1 b2
          have e1 : (E.t == E.t) = true := by simp
          have e2 : (E.k == E.k) = true := by simp
          have e3 : (E.d == E.d) = true := by simp
          clear hr1 hr2 bx4 by3
          go_wp2_with (fail)
          go_quiet (fail)
          have T3 := TT.out.drewN nq
          clear TT x0 x1 x2 y0 y1 y2 a0 a1 a2 b0 b1 b2 zp zp4 zg1 zg2 e1 e2 e3
          subst g1c
          subst g2c
          have T4 := Lib.hid T3
          clear T3
          go_wp2_with (fail)
          go_roundw
          case rel => exact ⟨k + 1, by omega, by go_num, T4.out⟩
          case measure => simp [intOf]; omega
        · obtain rfl : k = i := by omega
          obtain ⟨ha, hb, fa, fb, ma, mb, qa, qb, ap, sa, sb, l1, l2, bel⟩ := hT
          have BEL := Lib.hid bel
          have hBw : B ≤ wr.heap.size := by have := bel.size; omega
          clear qa qb ap sa sb l1 l2 bel HP
          go_wp2_with (fail)
          refine (sure_walk _).mono ?_
          rintro v w4 ⟨rfl, B4⟩
          have bel4 := BEL.out.trans (B4.mono hBw)
          go_wp2
          go_ret
          exact ⟨rfl, by rw [hB]; exact bel4⟩
end Go.Proofs.Ytfbbkeekpkbjhaa
