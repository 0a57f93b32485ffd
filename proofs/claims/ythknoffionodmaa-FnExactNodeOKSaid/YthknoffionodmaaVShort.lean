import Derived.Test.YthknoffionodmaaVCopy
namespace Go.Proofs.YthknoffionodmaaV.PrintWords
open Go.RowKit
theorem Bx0 {b : Nat} {w0 w w1 : World} (h : Aside0 (Below b w0 w)) (s : Below b w0 w → Below b w0 w1 := by
    intro h_; repeat (first | (with_reducible first | exact h_ | apply below_alloc | apply pw_below_drewN | apply below_drew1) | exact h_)) : Below b w0 w1 := s h.out
theorem Bx1 {b : Nat} {w0 w w1 : World} {P1 : Prop} (h : Aside0 (Below b w0 w)) (g1 : Aside0 P1) (s : P1 → Below b w0 w → Below b w0 w1 := by
    intro g1_ h_; repeat (first | (with_reducible first | exact h_ | apply below_alloc | apply pw_below_drewN | apply below_drew1 | refine below_set ?_ g1_) | exact h_)) : Below b w0 w1 := s g1.out h.out
theorem Bx2 {b : Nat} {w0 w w1 : World} {P1 P2 : Prop} (h : Aside0 (Below b w0 w)) (g1 : Aside0 P1) (g2 : Aside0 P2) (s : P1 → P2 → Below b w0 w → Below b w0 w1 := by
    intro g1_ g2_ h_; repeat (first | (with_reducible first | exact h_ | apply below_alloc | apply pw_below_drewN | apply below_drew1 | refine below_set ?_ g1_ | refine below_set ?_ g2_) | exact h_)) : Below b w0 w1 := s g1.out g2.out h.out
theorem Bx3 {b : Nat} {w0 w w1 : World} {P1 P2 P3 : Prop} (h : Aside0 (Below b w0 w)) (g1 : Aside0 P1) (g2 : Aside0 P2) (g3 : Aside0 P3) (s : P1 → P2 → P3 → Below b w0 w → Below b w0 w1 := by
    intro g1_ g2_ g3_ h_; repeat (first | (with_reducible first | exact h_ | apply below_alloc | apply pw_below_drewN | apply below_drew1 | refine below_set ?_ g1_ | refine below_set ?_ g2_ | refine below_set ?_ g3_) | exact h_)) : Below b w0 w1 := s g1.out g2.out g3.out h.out
theorem BKx {w w1 : World} {g : Nat} {o : Obj} (h : Aside0 (w.heap[g]? = some o)) (s : w.heap[g]? = some o → w1.heap[g]? = some o := by
    intro h_; (with_reducible repeat (first | refine blk_drewN ?_ _ | refine blk_drew ?_ | refine blk_alloc ?_ _)); exact h_) : w1.heap[g]? = some o := s h.out
theorem Rx {α : Type} {d : Kd α} {e base : Nat} {w w1 : World} {ok : Nat → Prop} {v : Value} {xs : List α} (h : Aside0 (d.R e w base ok v xs)) (s : d.R e w base ok v xs → d.R e w1 base ok v xs := by
    intro h_; (with_reducible repeat (first | apply Kd.R_alloc | apply Kd.R_drewN | apply Kd.R_drew)); exact h_) : d.R e w1 base ok v xs := s h.out
end Go.Proofs.YthknoffionodmaaV.PrintWords

