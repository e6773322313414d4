/- What holds while places are sorted. -/
import Derived.Test.YtbnnbhblfclomaaDoorK0
namespace Go.Proofs.YtbnnbhblfclomaaDoor
open Go.RowKit
set_option linter.unusedSimpArgs false
set_option linter.unusedVariables false
/-- The state of the sorting: many, depths, the free places, the order. -/
structure KW (w2 : World) (gm gd n : Nat) (many dep : Nat → Nat) (fv : Value) (fr : List Nat) (ov : Value) (o : List Nat) (wr : World) : Prop where
  b : Below w2.heap.size w2 wr
  lm : w2.heap.size ≤ gm
  ld : w2.heap.size ≤ gd
  md : gm ≠ gd
  m : Blk wr gm 3 (natsA n many)
  d : Blk wr gd 3 (natsA n dep)
  f : FRow wr w2.heap.size fv fr
  o : wr.ownsRow w2.heap.size 3 1 ov o.length (nats o)
  fm : fv.ownBlock ≠ some gm
  fd : fv.ownBlock ≠ some gd
  om : ov.ownBlock ≠ some gm
  od : ov.ownBlock ≠ some gd
  fo : ∀ k, fv.ownBlock = some k → ov.ownBlock ≠ some k
section
variable {w2 : World} {gm gd n : Nat} {many dep : Nat → Nat} {fv : Value} {fr : List Nat} {ov : Value} {o : List Nat} {wr : World}
theorem KW.alloc (h : KW w2 gm gd n many dep fv fr ov o wr) (ob : Obj) : KW w2 gm gd n many dep fv fr ov o (wr.alloc ob) :=
  ⟨h.b.alloc h.b.size _, h.lm, h.ld, h.md, h.m.alloc _, h.d.alloc _, h.f.far (fun k e => Below.heap_alloc _ _ _ (h.f.lt k e).2), h.o.alloc _, h.fm, h.fd, h.om, h.od, h.fo⟩
theorem KW.drewN (h : KW w2 gm gd n many dep fv fr ov o wr) (q : Nat) : KW w2 gm gd n many dep fv fr ov o (wr.drewN q) :=
  ⟨below_drewN h.b q, h.lm, h.ld, h.md, h.m, h.d, h.f.far (fun _ _ => rfl), owns_far h.o (fun _ _ => rfl), h.fm, h.fd, h.om, h.od, h.fo⟩
theorem KW.putM (h : KW w2 gm gd n many dep fv fr ov o wr) (y k : Nat) : KW w2 gm gd n (updN many y k) dep fv fr ov o (wr.setCell ⟨gm, y, none⟩ (.int .i64 (k : Int))) :=
  ⟨below_put (p := ⟨gm, y, none⟩) h.b h.lm _, h.lm, h.ld, h.md, h.m.put y _ (natsA_set n y k many), h.d.far (p := ⟨gm, y, none⟩) (Ne.symm h.md) _,
    h.f.far (fun k e => Below.heap_setCell _ _ _ _ (fun c => h.fm (by rw [e]; exact congrArg some c))), owns_far h.o (fun k e => Below.heap_setCell _ _ _ _ (fun c => h.om (by rw [e]; exact congrArg some c))), h.fm, h.fd, h.om, h.od, h.fo⟩
theorem KW.putD (h : KW w2 gm gd n many dep fv fr ov o wr) (y k : Nat) : KW w2 gm gd n many (updN dep y k) fv fr ov o (wr.setCell ⟨gd, y, none⟩ (.int .i64 (k : Int))) :=
  ⟨below_put (p := ⟨gd, y, none⟩) h.b h.ld _, h.lm, h.ld, h.md, h.m.far (p := ⟨gd, y, none⟩) h.md _, h.d.put y _ (natsA_set n y k dep),
    h.f.far (fun k e => Below.heap_setCell _ _ _ _ (fun c => h.fd (by rw [e]; exact congrArg some c))), owns_far h.o (fun k e => Below.heap_setCell _ _ _ _ (fun c => h.od (by rw [e]; exact congrArg some c))), h.fm, h.fd, h.om, h.od, h.fo⟩
theorem KW.pushO {w1 : World} {v' : Value} {o' : List Nat} (h : KW w2 gm gd n many dep fv fr ov o wr) (hg : wr.grownBy w1 ov.ownBlock) (ho : w1.ownsRow w2.heap.size 3 1 v' o'.length (nats o')) (ha : v'.ownBlock = ov.ownBlock ∨ v'.ownBlock = some wr.heap.size) :
    KW w2 gm gd n many dep fv fr v' o' w1 := by
  have hm := h.m.lt
  have hd := h.d.lt
  refine ⟨below_grown h.b hg (fun k e => (h.o.lt k e).1) h.b.size, h.lm, h.ld, h.md, (hg.block gm hm (Ne.symm h.om)).trans h.m, (hg.block gd hd (Ne.symm h.od)).trans h.d,
    h.f.far (fun k e => hg.block k (h.f.lt k e).2 (Ne.symm (h.fo k e))), ho, h.fm, h.fd, ?_, ?_, fun k e => ?_⟩
  · rcases ha with c | c
    · rw [c]; exact h.om
    · rw [c]; simp; omega
  · rcases ha with c | c
    · rw [c]; exact h.od
    · rw [c]; simp; omega
  · have hk := (h.f.lt k e).2
    rcases ha with c | c
    · rw [c]; exact h.fo k e
    · rw [c]; simp; omega
theorem KW.setF {w1 : World} {v' : Value} {fr' : List Nat} (h : KW w2 gm gd n many dep fv fr ov o wr) (hg : wr.grownBy w1 fv.ownBlock) (hf : FRow w1 w2.heap.size v' fr') (ha : v'.ownBlock = fv.ownBlock ∨ v'.ownBlock = some wr.heap.size) :
    KW w2 gm gd n many dep v' fr' ov o w1 := by
  have hm := h.m.lt
  have hd := h.d.lt
  refine ⟨below_grown h.b hg (fun k e => (h.f.lt k e).1) h.b.size, h.lm, h.ld, h.md, (hg.block gm hm (Ne.symm h.fm)).trans h.m, (hg.block gd hd (Ne.symm h.fd)).trans h.d,
    hf, owns_far h.o (fun k e => hg.block k (h.o.lt k e).2 (fun c => h.fo k c.symm e)), ?_, ?_, h.om, h.od, fun k e => ?_⟩
  · rcases ha with c | c
    · rw [c]; exact h.fm
    · rw [c]; simp; omega
  · rcases ha with c | c
    · rw [c]; exact h.fd
    · rw [c]; simp; omega
  · rcases ha with c | c
    · rw [c] at e; exact h.fo k e
    · rw [c] at e
      intro q
      have := (h.o.lt k q).2
      simp at e
      omega
end
theorem cnt_take (E : Ways) (k a b y : Nat) (h : E[k]? = some (a, b)) : (E.take (k + 1)).countP (fun e => e.2 == y) = updN (fun y => (E.take k).countP (fun e => e.2 == y)) b ((E.take k).countP (fun e => e.2 == b) + 1) y := by
  rw [List.take_add_one, h]
  unfold updN
  by_cases c : y = b
  · subst c; simp
  · rw [if_neg c]
    simp [List.countP_append, List.countP_cons]
    intro e; exact absurd e.symm c
end Go.Proofs.YtbnnbhblfclomaaDoor
