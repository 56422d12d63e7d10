/-
 Plan, layer 22: reading the parts of a hall; head, the examples of the chapter. Printed by genhead06.py.
-/
import Derived.Test.YtocadlcglgpdcaaDoorPnV
namespace Go.Proofs.YtocadlcglgpdcaaDoor
set_option linter.unusedVariables false
set_option linter.unusedSimpArgs false
open Go Go.RowKit Go.Shelf
open Lx (Tk)
attribute [local go_sem ↓] Go.wp_at_zero Go.wp_at_succ

theorem lev_get {B : Nat} {w : World} {l : List Pn.Lv} {v : Value} (h : ListS B 47 8 (Clv B) l v w) {i : Nat} {x : Pn.Lv} (hx : l[i]? = some x) : ∃ g cap a1 c1 a2 c2 a3 c3 a4 c4 a5 c5, v = .slice (some ⟨g, 0, none⟩) l.length cap ∧ l.length ≤ cap ∧ ListS B 51 3 (Cbk B) x.blocks (.slice a1 x.blocks.length c1) w ∧ ListS B 58 7 Car x.areas (.slice a2 x.areas.length c2) w ∧ ListS B 56 4 Cbx x.aisles (.slice a3 x.aisles.length c3) w ∧ ListS B 56 4 Cbx x.pillars (.slice a4 x.pillars.length c4) w ∧ ListS B 24 2 Cpt x.doors (.slice a5 x.doors.length c5) w ∧ w.cell? ⟨g, i * 8, none⟩ = some (.string ⟨x.name.toArray⟩) ∧ w.cell? ⟨g, i * 8 + 1, none⟩ = some (.int .i64 (x.height : Nat)) ∧ w.cell? ⟨g, i * 8 + 2, none⟩ = some (.slice a1 x.blocks.length c1) ∧ w.cell? ⟨g, i * 8 + 3, none⟩ = some (.slice a2 x.areas.length c2) ∧ w.cell? ⟨g, i * 8 + 4, none⟩ = some (.slice a3 x.aisles.length c3) ∧ w.cell? ⟨g, i * 8 + 5, none⟩ = some (.slice a4 x.pillars.length c4) ∧ w.cell? ⟨g, i * 8 + 6, none⟩ = some (.slice a5 x.doors.length c5) ∧ w.cell? ⟨g, i * 8 + 7, none⟩ = some (.int .i64 (x.at_ : Nat)) := by
 obtain ⟨g, cap, cs, rfl, hcap, hB, hlen, hC, hg, -⟩ := h.get hx
 obtain ⟨u1, u2, u3, u4, u5, rfl, q1, q2, q3, q4, q5⟩ := hC
 obtain ⟨a1, c1, rfl⟩ := q1.form
 obtain ⟨a2, c2, rfl⟩ := q2.form
 obtain ⟨a3, c3, rfl⟩ := q3.form
 obtain ⟨a4, c4, rfl⟩ := q4.form
 obtain ⟨a5, c5, rfl⟩ := q5.form
 exact ⟨g, cap, a1, c1, a2, c2, a3, c3, a4, c4, a5, c5, rfl, hcap, q1, q2, q3, q4, q5, hg 0 _ rfl, hg 1 _ rfl, hg 2 _ rfl, hg 3 _ rfl, hg 4 _ rfl, hg 5 _ rfl, hg 6 _ rfl, hg 7 _ rfl⟩
theorem blk_get {B : Nat} {w : World} {l : List Pn.Bl} {v : Value} (h : ListS B 51 3 (Cbk B) l v w) {i : Nat} {x : Pn.Bl} (hx : l[i]? = some x) : ∃ g cap a1 c1, v = .slice (some ⟨g, 0, none⟩) l.length cap ∧ l.length ≤ cap ∧ ListS B 54 8 (Crw B) x.rows (.slice a1 x.rows.length c1) w ∧ w.cell? ⟨g, i * 3, none⟩ = some (.string ⟨x.name.toArray⟩) ∧ w.cell? ⟨g, i * 3 + 1, none⟩ = some (.slice a1 x.rows.length c1) ∧ w.cell? ⟨g, i * 3 + 2, none⟩ = some (.int .i64 (x.at_ : Nat)) := by
 obtain ⟨g, cap, cs, rfl, hcap, hB, hlen, hC, hg, -⟩ := h.get hx
 obtain ⟨u1, rfl, q1⟩ := hC
 obtain ⟨a1, c1, rfl⟩ := q1.form
 exact ⟨g, cap, a1, c1, rfl, hcap, q1, hg 0 _ rfl, hg 1 _ rfl, hg 2 _ rfl⟩
theorem row_get {B : Nat} {w : World} {l : List Pn.Rw} {v : Value} (h : ListS B 54 8 (Crw B) l v w) {i : Nat} {x : Pn.Rw} (hx : l[i]? = some x) : ∃ g cap a1 c1, v = .slice (some ⟨g, 0, none⟩) l.length cap ∧ l.length ≤ cap ∧ ListS B 64 3 Cm x.marks (.slice a1 x.marks.length c1) w ∧ w.cell? ⟨g, i * 8, none⟩ = some (.string ⟨x.name.toArray⟩) ∧ w.cell? ⟨g, i * 8 + 1, none⟩ = some (.int .i64 (x.x : Nat)) ∧ w.cell? ⟨g, i * 8 + 2, none⟩ = some (.int .i64 (x.y : Nat)) ∧ w.cell? ⟨g, i * 8 + 3, none⟩ = some (.int .i64 (x.f : Nat)) ∧ w.cell? ⟨g, i * 8 + 4, none⟩ = some (.int .i64 (x.t : Nat)) ∧ w.cell? ⟨g, i * 8 + 5, none⟩ = some (.int .i64 (x.step : Nat)) ∧ w.cell? ⟨g, i * 8 + 6, none⟩ = some (.slice a1 x.marks.length c1) ∧ w.cell? ⟨g, i * 8 + 7, none⟩ = some (.int .i64 (x.at_ : Nat)) := by
 obtain ⟨g, cap, cs, rfl, hcap, hB, hlen, hC, hg, -⟩ := h.get hx
 obtain ⟨u1, rfl, q1⟩ := hC
 obtain ⟨a1, c1, rfl⟩ := q1.form
 exact ⟨g, cap, a1, c1, rfl, hcap, q1, hg 0 _ rfl, hg 1 _ rfl, hg 2 _ rfl, hg 3 _ rfl, hg 4 _ rfl, hg 5 _ rfl, hg 6 _ rfl, hg 7 _ rfl⟩
theorem mrk_get {B : Nat} {w : World} {l : List Pn.Mk} {v : Value} (h : ListS B 64 3 Cm l v w) {i : Nat} {x : Pn.Mk} (hx : l[i]? = some x) : ∃ g cap, v = .slice (some ⟨g, 0, none⟩) l.length cap ∧ l.length ≤ cap ∧ w.cell? ⟨g, i * 3, none⟩ = some (.int .i64 (x.kind : Nat)) ∧ w.cell? ⟨g, i * 3 + 1, none⟩ = some (.int .i64 (x.seat : Nat)) ∧ w.cell? ⟨g, i * 3 + 2, none⟩ = some (.int .i64 (x.w : Nat)) := by
 obtain ⟨g, cap, cs, rfl, hcap, hB, hlen, hC, hg, -⟩ := h.get hx
 cases hC
 exact ⟨g, cap, rfl, hcap, hg 0 _ rfl, hg 1 _ rfl, hg 2 _ rfl⟩
theorem are_get {B : Nat} {w : World} {l : List Pn.Ar} {v : Value} (h : ListS B 58 7 Car l v w) {i : Nat} {x : Pn.Ar} (hx : l[i]? = some x) : ∃ g cap, v = .slice (some ⟨g, 0, none⟩) l.length cap ∧ l.length ≤ cap ∧ w.cell? ⟨g, i * 7, none⟩ = some (.string ⟨x.name.toArray⟩) ∧ w.cell? ⟨g, i * 7 + 1, none⟩ = some (.int .i64 (x.box.x : Nat)) ∧ w.cell? ⟨g, i * 7 + 2, none⟩ = some (.int .i64 (x.box.y : Nat)) ∧ w.cell? ⟨g, i * 7 + 3, none⟩ = some (.int .i64 (x.box.x2 : Nat)) ∧ w.cell? ⟨g, i * 7 + 4, none⟩ = some (.int .i64 (x.box.y2 : Nat)) ∧ w.cell? ⟨g, i * 7 + 5, none⟩ = some (.int .i64 (x.holds : Nat)) ∧ w.cell? ⟨g, i * 7 + 6, none⟩ = some (.int .i64 (x.at_ : Nat)) := by
 obtain ⟨g, cap, cs, rfl, hcap, hB, hlen, hC, hg, -⟩ := h.get hx
 cases hC
 exact ⟨g, cap, rfl, hcap, hg 0 _ rfl, hg 1 _ rfl, hg 2 _ rfl, hg 3 _ rfl, hg 4 _ rfl, hg 5 _ rfl, hg 6 _ rfl⟩
theorem box_get {B : Nat} {w : World} {l : List Pn.Bx} {v : Value} (h : ListS B 56 4 Cbx l v w) {i : Nat} {x : Pn.Bx} (hx : l[i]? = some x) : ∃ g cap, v = .slice (some ⟨g, 0, none⟩) l.length cap ∧ l.length ≤ cap ∧ w.cell? ⟨g, i * 4, none⟩ = some (.int .i64 (x.x : Nat)) ∧ w.cell? ⟨g, i * 4 + 1, none⟩ = some (.int .i64 (x.y : Nat)) ∧ w.cell? ⟨g, i * 4 + 2, none⟩ = some (.int .i64 (x.x2 : Nat)) ∧ w.cell? ⟨g, i * 4 + 3, none⟩ = some (.int .i64 (x.y2 : Nat)) := by
 obtain ⟨g, cap, cs, rfl, hcap, hB, hlen, hC, hg, -⟩ := h.get hx
 cases hC
 exact ⟨g, cap, rfl, hcap, hg 0 _ rfl, hg 1 _ rfl, hg 2 _ rfl, hg 3 _ rfl⟩
theorem pnt_get {B : Nat} {w : World} {l : List (Nat × Nat)} {v : Value} (h : ListS B 24 2 Cpt l v w) {i : Nat} {x : (Nat × Nat)} (hx : l[i]? = some x) : ∃ g cap, v = .slice (some ⟨g, 0, none⟩) l.length cap ∧ l.length ≤ cap ∧ w.cell? ⟨g, i * 2, none⟩ = some (.int .i64 (x.1 : Nat)) ∧ w.cell? ⟨g, i * 2 + 1, none⟩ = some (.int .i64 (x.2 : Nat)) := by
 obtain ⟨g, cap, cs, rfl, hcap, hB, hlen, hC, hg, -⟩ := h.get hx
 cases hC
 exact ⟨g, cap, rfl, hcap, hg 0 _ rfl, hg 1 _ rfl⟩
theorem hall_form {w w' : World} {o : Pn.Hl × Nat × Int} {e : Ending} (h : Parsed w o e w') : ∃ ao cap, e = .returned (.tuple #[.agg #[.string ⟨o.1.name.toArray⟩, .int .i64 (o.1.sx : Nat), .int .i64 (o.1.sy : Nat), .slice ao o.1.levels.length cap], .int .i64 (o.2.1 : Nat), .int .i64 o.2.2]) ∧ ListS w.heap.size 47 8 (Clv w.heap.size) o.1.levels (.slice ao o.1.levels.length cap) w' ∧ Chg [] w w' := by
 obtain ⟨v, rfl, hl, hc⟩ := h
 obtain ⟨ao, cap, rfl⟩ := hl.form
 exact ⟨ao, cap, rfl, hl, hc⟩

def levB : Pn.Lv := ⟨[97], 2, [], [], [⟨0, 0, 3, 4⟩], [], [(1, 2)], 19⟩
def levF : Pn.Lv := ⟨[97], 2, [⟨[98], [⟨[114], 7, 8, 1, 5, 2, [⟨2, 1, 0⟩, ⟨4, 2, 1⟩, ⟨1, 4, 0⟩], 48⟩], 38⟩], [⟨[115], ⟨1, 2, 3, 4⟩, 9, 112⟩], [], [], [], 19⟩
theorem parse_a : Pn.parse [104, 97, 108, 108, 32, 104, 32, 115, 116, 97, 103, 101, 32, 53, 32, 48, 32, 123, 32, 125] = (⟨[104], 5, 0, []⟩, 0, 0) := by decide +kernel
theorem lit_a (w : World) : Calls Tryd.prog 10 #[.string ⟨#[104, 97, 108, 108, 32, 104, 32, 115, 116, 97, 103, 101, 32, 53, 32, 48, 32, 123, 32, 125]⟩] w fun e w' => ∃ ao cap, e = .returned (.tuple #[.agg #[.string ⟨#[104]⟩, .int .i64 5, .int .i64 0, .slice ao 0 cap], .int .i64 0, .int .i64 0]) ∧ ListS w.heap.size 47 8 (Clv w.heap.size) [] (.slice ao 0 cap) w' ∧ Chg [] w w' := by
 refine (parse_spec w [104, 97, 108, 108, 32, 104, 32, 115, 116, 97, 103, 101, 32, 53, 32, 48, 32, 123, 32, 125] (by decide +kernel)).mono ?_
 intro e w' hp
 rw [parse_a] at hp
 obtain ⟨ao, cap, rfl, hl, hc⟩ := hall_form hp
 exact ⟨ao, cap, rfl, hl, hc⟩
theorem parse_b : Pn.parse [104, 97, 108, 108, 32, 104, 32, 115, 116, 97, 103, 101, 32, 53, 32, 48, 32, 123, 32, 108, 101, 118, 101, 108, 32, 97, 32, 104, 101, 105, 103, 104, 116, 32, 50, 32, 123, 32, 100, 111, 111, 114, 32, 49, 32, 50, 59, 32, 97, 105, 115, 108, 101, 32, 48, 32, 48, 32, 51, 32, 52, 59, 32, 125, 32, 125] = (⟨[104], 5, 0, [levB]⟩, 0, 0) := by decide +kernel
theorem lit_b (w : World) : Calls Tryd.prog 10 #[.string ⟨#[104, 97, 108, 108, 32, 104, 32, 115, 116, 97, 103, 101, 32, 53, 32, 48, 32, 123, 32, 108, 101, 118, 101, 108, 32, 97, 32, 104, 101, 105, 103, 104, 116, 32, 50, 32, 123, 32, 100, 111, 111, 114, 32, 49, 32, 50, 59, 32, 97, 105, 115, 108, 101, 32, 48, 32, 48, 32, 51, 32, 52, 59, 32, 125, 32, 125]⟩] w fun e w' => ∃ ao cap, e = .returned (.tuple #[.agg #[.string ⟨#[104]⟩, .int .i64 5, .int .i64 0, .slice ao 1 cap], .int .i64 0, .int .i64 0]) ∧ ListS w.heap.size 47 8 (Clv w.heap.size) [levB] (.slice ao 1 cap) w' ∧ Chg [] w w' := by
 refine (parse_spec w [104, 97, 108, 108, 32, 104, 32, 115, 116, 97, 103, 101, 32, 53, 32, 48, 32, 123, 32, 108, 101, 118, 101, 108, 32, 97, 32, 104, 101, 105, 103, 104, 116, 32, 50, 32, 123, 32, 100, 111, 111, 114, 32, 49, 32, 50, 59, 32, 97, 105, 115, 108, 101, 32, 48, 32, 48, 32, 51, 32, 52, 59, 32, 125, 32, 125] (by decide +kernel)).mono ?_
 intro e w' hp
 rw [parse_b] at hp
 obtain ⟨ao, cap, rfl, hl, hc⟩ := hall_form hp
 exact ⟨ao, cap, rfl, hl, hc⟩
theorem parse_c : Pn.parse [104, 97, 108, 108, 32, 104, 32, 115, 116, 97, 103, 101, 32, 53, 32, 123, 32, 125] = (Pn.hl0, 4, 15) := by decide +kernel
theorem lit_c (w : World) : Calls Tryd.prog 10 #[.string ⟨#[104, 97, 108, 108, 32, 104, 32, 115, 116, 97, 103, 101, 32, 53, 32, 123, 32, 125]⟩] w fun e w' => ∃ ao cap, e = .returned (.tuple #[.agg #[.string ⟨#[]⟩, .int .i64 0, .int .i64 0, .slice ao 0 cap], .int .i64 4, .int .i64 15]) ∧ ListS w.heap.size 47 8 (Clv w.heap.size) [] (.slice ao 0 cap) w' ∧ Chg [] w w' := by
 refine (parse_spec w [104, 97, 108, 108, 32, 104, 32, 115, 116, 97, 103, 101, 32, 53, 32, 123, 32, 125] (by decide +kernel)).mono ?_
 intro e w' hp
 rw [parse_c] at hp
 obtain ⟨ao, cap, rfl, hl, hc⟩ := hall_form hp
 exact ⟨ao, cap, rfl, hl, hc⟩
theorem parse_d : Pn.parse [104, 97, 108, 108, 32, 104, 32, 115, 116, 97, 103, 101, 32, 53, 32, 48, 32, 123, 32, 108, 101, 118, 101, 108] = (Pn.hl0, 7, 24) := by decide +kernel
theorem lit_d (w : World) : Calls Tryd.prog 10 #[.string ⟨#[104, 97, 108, 108, 32, 104, 32, 115, 116, 97, 103, 101, 32, 53, 32, 48, 32, 123, 32, 108, 101, 118, 101, 108]⟩] w fun e w' => ∃ ao cap, e = .returned (.tuple #[.agg #[.string ⟨#[]⟩, .int .i64 0, .int .i64 0, .slice ao 0 cap], .int .i64 7, .int .i64 24]) ∧ ListS w.heap.size 47 8 (Clv w.heap.size) [] (.slice ao 0 cap) w' ∧ Chg [] w w' := by
 refine (parse_spec w [104, 97, 108, 108, 32, 104, 32, 115, 116, 97, 103, 101, 32, 53, 32, 48, 32, 123, 32, 108, 101, 118, 101, 108] (by decide +kernel)).mono ?_
 intro e w' hp
 rw [parse_d] at hp
 obtain ⟨ao, cap, rfl, hl, hc⟩ := hall_form hp
 exact ⟨ao, cap, rfl, hl, hc⟩
theorem parse_e : Pn.parse [104, 97, 108, 108, 32, 104, 32, 115, 116, 97, 103, 101, 32, 53, 32, 48, 32, 123, 32, 125, 32, 120] = (Pn.hl0, 4, 21) := by decide +kernel
theorem lit_e (w : World) : Calls Tryd.prog 10 #[.string ⟨#[104, 97, 108, 108, 32, 104, 32, 115, 116, 97, 103, 101, 32, 53, 32, 48, 32, 123, 32, 125, 32, 120]⟩] w fun e w' => ∃ ao cap, e = .returned (.tuple #[.agg #[.string ⟨#[]⟩, .int .i64 0, .int .i64 0, .slice ao 0 cap], .int .i64 4, .int .i64 21]) ∧ ListS w.heap.size 47 8 (Clv w.heap.size) [] (.slice ao 0 cap) w' ∧ Chg [] w w' := by
 refine (parse_spec w [104, 97, 108, 108, 32, 104, 32, 115, 116, 97, 103, 101, 32, 53, 32, 48, 32, 123, 32, 125, 32, 120] (by decide +kernel)).mono ?_
 intro e w' hp
 rw [parse_e] at hp
 obtain ⟨ao, cap, rfl, hl, hc⟩ := hall_form hp
 exact ⟨ao, cap, rfl, hl, hc⟩
theorem parse_f : Pn.parse [104, 97, 108, 108, 32, 104, 32, 115, 116, 97, 103, 101, 32, 53, 32, 48, 32, 123, 32, 108, 101, 118, 101, 108, 32, 97, 32, 104, 101, 105, 103, 104, 116, 32, 50, 32, 123, 32, 98, 108, 111, 99, 107, 32, 98, 32, 123, 32, 114, 111, 119, 32, 114, 32, 97, 116, 32, 55, 32, 56, 32, 115, 101, 97, 116, 115, 32, 49, 32, 116, 111, 32, 53, 32, 115, 116, 101, 112, 32, 50, 32, 119, 104, 101, 101, 108, 32, 49, 32, 98, 101, 115, 105, 100, 101, 32, 50, 32, 111, 102, 32, 49, 32, 103, 97, 112, 32, 52, 59, 32, 125, 32, 97, 114, 101, 97, 32, 115, 32, 49, 32, 50, 32, 51, 32, 52, 32, 104, 111, 108, 100, 115, 32, 57, 59, 32, 125, 32, 125] = (⟨[104], 5, 0, [levF]⟩, 0, 0) := by decide +kernel
theorem lit_f (w : World) : Calls Tryd.prog 10 #[.string ⟨#[104, 97, 108, 108, 32, 104, 32, 115, 116, 97, 103, 101, 32, 53, 32, 48, 32, 123, 32, 108, 101, 118, 101, 108, 32, 97, 32, 104, 101, 105, 103, 104, 116, 32, 50, 32, 123, 32, 98, 108, 111, 99, 107, 32, 98, 32, 123, 32, 114, 111, 119, 32, 114, 32, 97, 116, 32, 55, 32, 56, 32, 115, 101, 97, 116, 115, 32, 49, 32, 116, 111, 32, 53, 32, 115, 116, 101, 112, 32, 50, 32, 119, 104, 101, 101, 108, 32, 49, 32, 98, 101, 115, 105, 100, 101, 32, 50, 32, 111, 102, 32, 49, 32, 103, 97, 112, 32, 52, 59, 32, 125, 32, 97, 114, 101, 97, 32, 115, 32, 49, 32, 50, 32, 51, 32, 52, 32, 104, 111, 108, 100, 115, 32, 57, 59, 32, 125, 32, 125]⟩] w fun e w' => ∃ ao cap, e = .returned (.tuple #[.agg #[.string ⟨#[104]⟩, .int .i64 5, .int .i64 0, .slice ao 1 cap], .int .i64 0, .int .i64 0]) ∧ ListS w.heap.size 47 8 (Clv w.heap.size) [levF] (.slice ao 1 cap) w' ∧ Chg [] w w' := by
 refine (parse_spec w [104, 97, 108, 108, 32, 104, 32, 115, 116, 97, 103, 101, 32, 53, 32, 48, 32, 123, 32, 108, 101, 118, 101, 108, 32, 97, 32, 104, 101, 105, 103, 104, 116, 32, 50, 32, 123, 32, 98, 108, 111, 99, 107, 32, 98, 32, 123, 32, 114, 111, 119, 32, 114, 32, 97, 116, 32, 55, 32, 56, 32, 115, 101, 97, 116, 115, 32, 49, 32, 116, 111, 32, 53, 32, 115, 116, 101, 112, 32, 50, 32, 119, 104, 101, 101, 108, 32, 49, 32, 98, 101, 115, 105, 100, 101, 32, 50, 32, 111, 102, 32, 49, 32, 103, 97, 112, 32, 52, 59, 32, 125, 32, 97, 114, 101, 97, 32, 115, 32, 49, 32, 50, 32, 51, 32, 52, 32, 104, 111, 108, 100, 115, 32, 57, 59, 32, 125, 32, 125] (by decide +kernel)).mono ?_
 intro e w' hp
 rw [parse_f] at hp
 obtain ⟨ao, cap, rfl, hl, hc⟩ := hall_form hp
 exact ⟨ao, cap, rfl, hl, hc⟩
set_option maxHeartbeats 40000000 in
set_option maxRecDepth 100000 in
theorem head_spec06 (w : World) : Calls Tryd.prog 9 #[] w fun e w' => e = .returned (.bool true) ∧ Chg [] w w' := by
 go_enter Tryd.func9, Tryd.ntmps9
 go_wp2_with fail
 refine (lit_a _).mono ?_
 rintro e wa ⟨aa, ca, rfl, hla, hca⟩
 have HLa := hd hla
 have Ka := hd hca
 clear hla hca
 go_upto_region 2 with fail
 obtain ⟨Wa, hW⟩ : ∃ W, W = wa.alloc (.cells #[.string ⟨#[104]⟩, .int .i64 5, .int .i64 0, .slice aa 0 ca] 27) := ⟨_, rfl⟩
 rw [← hW]
 obtain ⟨Ta, hT⟩ : ∃ T, T = wa.heap.size := ⟨_, rfl⟩
 rw [← hT]
 have Ma : Hid (Chg [] wa Wa) := hd (by rw [hW]; exact (Chg.refl _ _).alloc _)
 have HTa : Hid (Blk Wa Ta [.string ⟨#[104]⟩, .int .i64 5, .int .i64 0, .slice aa 0 ca] 27) := hd (by rw [hW, hT]; exact Blk.new wa _ _)
 clear hW hT
 go_wp2_with fail
 refine (lit_b _).mono ?_
 rintro e wb ⟨ab, cb, rfl, hlb, hcb⟩
 have HLb := hd hlb
 have Kb := hd hcb
 clear hlb hcb
 go_upto_region 3 with fail
 obtain ⟨Wb, hW⟩ : ∃ W, W = wb.alloc (.cells #[.string ⟨#[104]⟩, .int .i64 5, .int .i64 0, .slice ab 1 cb] 27) := ⟨_, rfl⟩
 rw [← hW]
 obtain ⟨Tb, hT⟩ : ∃ T, T = wb.heap.size := ⟨_, rfl⟩
 rw [← hT]
 have Mb : Hid (Chg [] wb Wb) := hd (by rw [hW]; exact (Chg.refl _ _).alloc _)
 have HTb : Hid (Blk Wb Tb [.string ⟨#[104]⟩, .int .i64 5, .int .i64 0, .slice ab 1 cb] 27) := hd (by rw [hW, hT]; exact Blk.new wb _ _)
 clear hW hT
 go_wp2_with fail
 refine (lit_c _).mono ?_
 rintro e wc ⟨ac, cc, rfl, hlc, hcc⟩
 have HLc := hd hlc
 have Kc := hd hcc
 clear hlc hcc
 go_upto_region 4 with fail
 obtain ⟨Wc, hW⟩ : ∃ W, W = wc.alloc (.cells #[.string ⟨#[]⟩, .int .i64 0, .int .i64 0, .slice ac 0 cc] 27) := ⟨_, rfl⟩
 rw [← hW]
 obtain ⟨Tc, hT⟩ : ∃ T, T = wc.heap.size := ⟨_, rfl⟩
 rw [← hT]
 have Mc : Hid (Chg [] wc Wc) := hd (by rw [hW]; exact (Chg.refl _ _).alloc _)
 clear hW hT
 go_wp2_with fail
 refine (lit_d _).mono ?_
 rintro e wd ⟨ad, cd, rfl, hld, hcd⟩
 have HLd := hd hld
 have Kd := hd hcd
 clear hld hcd
 go_upto_region 5 with fail
 obtain ⟨Wd, hW⟩ : ∃ W, W = wd.alloc (.cells #[.string ⟨#[]⟩, .int .i64 0, .int .i64 0, .slice ad 0 cd] 27) := ⟨_, rfl⟩
 rw [← hW]
 obtain ⟨Td, hT⟩ : ∃ T, T = wd.heap.size := ⟨_, rfl⟩
 rw [← hT]
 have Md : Hid (Chg [] wd Wd) := hd (by rw [hW]; exact (Chg.refl _ _).alloc _)
 clear hW hT
 go_wp2_with fail
 refine (lit_e _).mono ?_
 rintro e we ⟨ae, ce, rfl, hle, hce⟩
 have HLe := hd hle
 have Ke := hd hce
 clear hle hce
 go_upto_region 6 with fail
 obtain ⟨We, hW⟩ : ∃ W, W = we.alloc (.cells #[.string ⟨#[]⟩, .int .i64 0, .int .i64 0, .slice ae 0 ce] 27) := ⟨_, rfl⟩
 rw [← hW]
 obtain ⟨Te, hT⟩ : ∃ T, T = we.heap.size := ⟨_, rfl⟩
 rw [← hT]
 have Me : Hid (Chg [] we We) := hd (by rw [hW]; exact (Chg.refl _ _).alloc _)
 clear hW hT
 go_wp2_with fail
 refine (lit_f _).mono ?_
 rintro e wf ⟨af, cf, rfl, hlf, hcf⟩
 have HLf := hd hlf
 have Kf := hd hcf
 clear hlf hcf
 go_upto_region 7 with fail
 obtain ⟨Wf, hW⟩ : ∃ W, W = wf.alloc (.cells #[.string ⟨#[104]⟩, .int .i64 5, .int .i64 0, .slice af 1 cf] 27) := ⟨_, rfl⟩
 rw [← hW]
 obtain ⟨Tf, hT⟩ : ∃ T, T = wf.heap.size := ⟨_, rfl⟩
 rw [← hT]
 have Mf : Hid (Chg [] wf Wf) := hd (by rw [hW]; exact (Chg.refl _ _).alloc _)
 have HTf : Hid (Blk Wf Tf [.string ⟨#[104]⟩, .int .i64 5, .int .i64 0, .slice af 1 cf] 27) := hd (by rw [hW, hT]; exact Blk.new wf _ _)
 clear hW hT
 have Xa : Hid (Blk Wf Ta [.string ⟨#[104]⟩, .int .i64 5, .int .i64 0, .slice aa 0 ca] 27) := hd ((((((((((Kb.out.trans Mb.out (by simp)).trans Kc.out (by simp)).trans Mc.out (by simp)).trans Kd.out (by simp)).trans Md.out (by simp)).trans Ke.out (by simp)).trans Me.out (by simp)).trans Kf.out (by simp)).trans Mf.out (by simp)).blk HTa.out (by simp))
 have Xb : Hid (Blk Wf Tb [.string ⟨#[104]⟩, .int .i64 5, .int .i64 0, .slice ab 1 cb] 27) := hd ((((((((Kc.out.trans Mc.out (by simp)).trans Kd.out (by simp)).trans Md.out (by simp)).trans Ke.out (by simp)).trans Me.out (by simp)).trans Kf.out (by simp)).trans Mf.out (by simp)).blk HTb.out (by simp))
 have Xf : Hid (Blk Wf Tf [.string ⟨#[104]⟩, .int .i64 5, .int .i64 0, .slice af 1 cf] 27) := hd ((Chg.refl [] _).blk HTf.out (by simp))
 obtain ⟨gb, capb, p1b, q1b, p2b, q2b, p3b, q3b, p4b, q4b, p5b, q5b, hv, hcapb, l1b, l2b, l3b, l4b, l5b, m0b, m1b, m2b, m3b, m4b, m5b, m6b, m7b⟩ := lev_get (HLb.out.keep (kp_lv _) ((((((((Mb.out.trans Kc.out (by simp)).trans Mc.out (by simp)).trans Kd.out (by simp)).trans Md.out (by simp)).trans Ke.out (by simp)).trans Me.out (by simp)).trans Kf.out (by simp)).trans Mf.out (by simp)) (TyB.nil _ _ _)) (i := 0) rfl
 simp only [List.length_cons, List.length_nil, Nat.zero_add, Value.slice.injEq, true_and] at hv hcapb
 obtain ⟨rfl, rfl⟩ := hv
 simp only [levB, List.length_cons, List.length_nil, Nat.zero_mul, Nat.zero_add, List.map] at l1b l2b l3b l4b l5b m0b m1b m2b m3b m4b m5b m6b m7b
 obtain ⟨gf, capf, p1f, q1f, p2f, q2f, p3f, q3f, p4f, q4f, p5f, q5f, hv, hcapf, l1f, l2f, l3f, l4f, l5f, m0f, m1f, m2f, m3f, m4f, m5f, m6f, m7f⟩ := lev_get (HLf.out.keep (kp_lv _) Mf.out (TyB.nil _ _ _)) (i := 0) rfl
 simp only [List.length_cons, List.length_nil, Nat.zero_add, Value.slice.injEq, true_and] at hv hcapf
 obtain ⟨rfl, rfl⟩ := hv
 simp only [levF, List.length_cons, List.length_nil, Nat.zero_mul, Nat.zero_add, List.map] at l1f l2f l3f l4f l5f m0f m1f m2f m3f m4f m5f m6f m7f
 obtain ⟨gk, capk, pk, qk, hv, hcapk, lk, b0, b1, b2⟩ := blk_get l1f (i := 0) rfl
 simp only [List.length_cons, List.length_nil, Nat.zero_add, Value.slice.injEq, true_and] at hv hcapk
 obtain ⟨rfl, rfl⟩ := hv
 obtain ⟨gr, capr, pr, qr, hv, hcapr, lr, r0, r1, r2, r3, r4, r5, r6, r7⟩ := row_get lk (i := 0) rfl
 simp only [List.length_cons, List.length_nil, Nat.zero_add, Value.slice.injEq, true_and] at hv hcapr
 obtain ⟨rfl, rfl⟩ := hv
 obtain ⟨gm, capm, hv, hcapm, k0, k1, k2⟩ := mrk_get lr (i := 1) rfl
 simp only [List.length_cons, List.length_nil, Nat.zero_add, Nat.reduceAdd, Value.slice.injEq, true_and] at hv hcapm
 obtain ⟨rfl, rfl⟩ := hv
 obtain ⟨ga, capa, hv, hcapa, y0, y1, y2, y3, y4, y5, y6⟩ := are_get l2f (i := 0) rfl
 simp only [List.length_cons, List.length_nil, Nat.zero_add, Value.slice.injEq, true_and] at hv hcapa
 obtain ⟨rfl, rfl⟩ := hv
 simp only [List.length_cons, List.length_nil, Nat.zero_mul, Nat.zero_add, Nat.one_mul, Nat.reduceAdd, Nat.reduceMul] at b0 b1 b2 r0 r1 r2 r3 r4 r5 r6 r7 k0 k1 k2 y5
 clear l1b l2b l3b l4b l5b l1f l2f l3f l4f l5f lk lr y0 y1 y2 y3 y4 y6
 have B1 := Xb.out.cell (i := 3) rfl
 have B2 := Xf.out.cell (i := 3) rfl
 have HCW : Hid (Chg [] w Wf) := hd (((((((((((Ka.out.trans Ma.out (by simp)).trans Kb.out (by simp)).trans Mb.out (by simp)).trans Kc.out (by simp)).trans Mc.out (by simp)).trans Kd.out (by simp)).trans Md.out (by simp)).trans Ke.out (by simp)).trans Me.out (by simp)).trans Kf.out (by simp)).trans Mf.out (by simp))
 go_upto_region 9 with fail
 go_upto_region 10 with fail
 obtain ⟨V, hV⟩ : ∃ V, V = Wf.alloc (.cells #[.string ⟨#[114]⟩, .int .i64 7, .int .i64 8, .int .i64 1, .int .i64 5, .int .i64 2, .slice (some ⟨gm, 0, none⟩) 3 qr, .int .i64 48] 54) := ⟨_, rfl⟩
 rw [← hV]
 obtain ⟨t9, ht9⟩ : ∃ t9, t9 = Wf.heap.size := ⟨_, rfl⟩
 rw [← ht9]
 have HB9 : Blk V t9 [.string ⟨#[114]⟩, .int .i64 7, .int .i64 8, .int .i64 1, .int .i64 5, .int .i64 2, .slice (some ⟨gm, 0, none⟩) 3 qr, .int .i64 48] 54 := by rw [hV, ht9]; exact Blk.new Wf _ _
 have HCV : Hid (Chg [] Wf V) := hd (by rw [hV]; exact (Chg.refl _ _).alloc _)
 clear hV ht9
 have z5 := HB9.cell (i := 5) rfl
 have z6 := HB9.cell (i := 6) rfl
 have A0 := (HCV.out.blk Xa.out (by simp)).cell (i := 0) rfl
 have A1 := (HCV.out.blk Xa.out (by simp)).cell (i := 1) rfl
 have A3 := (HCV.out.blk Xa.out (by simp)).cell (i := 3) rfl
 have B1 := cell_quiet HCV.out B1 (by simp)
 have B2 := cell_quiet HCV.out B2 (by simp)
 have m6b := cell_quiet HCV.out m6b (by simp)
 have m4b := cell_quiet HCV.out m4b (by simp)
 have m7b := cell_quiet HCV.out m7b (by simp)
 have m3f := cell_quiet HCV.out m3f (by simp)
 have k0 := cell_quiet HCV.out k0 (by simp)
 have k1 := cell_quiet HCV.out k1 (by simp)
 have k2 := cell_quiet HCV.out k2 (by simp)
 have y5 := cell_quiet HCV.out y5 (by simp)
 clear HB9 m0f m1f m2f m4f m5f m6f m7f r0 r1 r2 r3 r4 r5 r6 r7 b0 b1 b2
 go_wp2_with fail
 go_ret
 exact ⟨rfl, HCW.out.trans HCV.out (by simp)⟩
end Go.Proofs.YtocadlcglgpdcaaDoor
