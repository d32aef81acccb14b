import Derived.Test.YtmhepfehcakmjaaGreatKSnap1
import Derived.Test.YtmhepfehcakmjaaGreatKTup3
namespace Go.Proofs.YtmhepfehcakmjaaGreat
open Go.RowKit
structure Vw where
 m : Int
 next : Int
 active : List Int
 own : Int
 running : List Int
 clog : Pg
structure VwIn (w : World) (v : Vw) (av rv iv : Value) : Prop where
 act : Ints w av v.active
 run : Ints w rv v.running
 items : Items w iv v.clog.items
 actl : (v.active.length : Int) <= 70368744177664
 runl : (v.running.length : Int) <= 70368744177664
 itemsl : (v.clog.items.length : Int) <= 70368744177664
 texts : ∀ x ∈ v.clog.items, (x.length : Int) <= 9223372036854775807
theorem VwIn.fits {w w' : World} {v : Vw} {av rv iv : Value} (h : VwIn w v av rv iv) (k : Below w.heap.size w w') : VwIn w' v av rv iv :=
 ⟨h.act.fits k, h.run.fits k, Row.fits h.items k, h.actl, h.runl, h.itemsl, h.texts⟩
theorem tures {w : World} {b t : Nat} {v0 v1 v2 v3 v4 : Value} (h : Blk w b t [v0, v1, v2, v3, v4]) :
  w.cell? ⟨b, 0, none⟩ = some v0 /\ w.cell? ⟨b, 1, none⟩ = some v1 /\ w.cell? ⟨b, 2, none⟩ = some v2 /\ w.cell? ⟨b, 3, none⟩ = some v3 /\ w.cell? ⟨b, 4, none⟩ = some v4 :=
 ⟨h.cell 0 (by simp), h.cell 1 (by simp), h.cell 2 (by simp), h.cell 3 (by simp), h.cell 4 (by simp)⟩
def tuCells (t : Tup) : List Value := [.int .i64 t.xmin, .int .i64 t.xmax, .bool t.frozen, .string (str t.key), .string (str t.val)]
def stateS (l : List UInt8) : Nat := if l.isEmpty then 1 else if (decS l).isSome then 3 else if (buriedS l).isSome then 2 else 0
set_option maxRecDepth 100000 in
set_option maxHeartbeats 1000000 in
theorem state_any (s : ByteArray) (w : World) (hs : (s.size : Int) <= 9223372036854775807) : Calls Tryz.prog 16 #[.string s] w fun e w' => e = .returned (.int .u8 (stateS s.data.toList)) /\ Below w.heap.size w w' := by
 have hd := tdecode_any s w hs;have hS : stateS s.data.toList = if s.data.toList.isEmpty then 1 else if (decS s.data.toList).isSome then 3 else if (buriedS s.data.toList).isSome then 2 else 0 := rfl
 have he : s.toList.isEmpty = s.data.toList.isEmpty := by
  have := str_list s.data.toList;rw [str_of] at this;rw [this]
 unfold DecPost at hd;have hbur : ∀ u, Calls Tryz.prog 35 #[.string s] u (BurPost s.data.toList u) := fun u => buried_any s u hs
 unfold BurPost at hbur;generalize (decS s.data.toList).getD noTup = T at *;generalize (decS s.data.toList).isSome = D at *;generalize (buriedS s.data.toList).getD [] = K at *;generalize (buriedS s.data.toList).isSome = B at *;generalize s.data.toList.isEmpty = Z at *;have HS := keep hS;have Hd := keep hd;have Hbur := keep hbur;clear hS hd hbur;go_enter Tryz.func16, Tryz.ntmps16;go_wp2_with fail;refine (free_any w).mono ?_;rintro e w' ⟨rfl, rfl⟩;cases Z with
 | true =>
  go_wp2_with fail;go_ret;rw [HS.out];exact ⟨rfl, Below.refl _ _⟩
 | false =>
  go_wp2_with fail;refine Hd.out.mono ?_;rintro e w1 ⟨rfl, hb1⟩;cases D with
  | true =>
   unfold tupV;go_wp2_with fail;go_ret;rw [HS.out];exact ⟨rfl, Grow.alloc hb1 _⟩
  | false =>
   have hg1 : Grow w (w1.alloc (.cells (tuCells T).toArray 51)) := Grow.alloc hb1 _;have hB := Hbur.out (w1.alloc (.cells (tuCells T).toArray 51));unfold tuCells at hg1 hB;have HB := keep hB;clear hB;unfold tupV;go_wp2_with fail;refine HB.out.mono ?_;rintro e w2 ⟨rfl, hb2⟩;have hg2 := Grow.trans hg1 hb2;clear HB Hbur hb2 hg1;cases B with
   | true =>
    go_wp2_with fail;go_ret;rw [HS.out];exact ⟨rfl, hg2⟩
   | false =>
    go_wp2_with fail;go_ret;rw [HS.out];exact ⟨rfl, hg2⟩
def keyS (l : List UInt8) : List UInt8 × Bool := if (decS l).isSome then (((decS l).getD noTup).key, true) else ((buriedS l).getD [], (buriedS l).isSome)
set_option maxRecDepth 100000 in
set_option maxHeartbeats 1000000 in
theorem key_any (s : ByteArray) (w : World) (hs : (s.size : Int) <= 9223372036854775807) : Calls Tryz.prog 15 #[.string s] w fun e w' => e = .returned (.tuple #[.string (str (keyS s.data.toList).1), .bool (keyS s.data.toList).2]) /\ Below w.heap.size w w' := by
 have hd := tdecode_any s w hs;have hS : keyS s.data.toList = if (decS s.data.toList).isSome then (((decS s.data.toList).getD noTup).key, true) else ((buriedS s.data.toList).getD [], (buriedS s.data.toList).isSome) := rfl
 unfold DecPost at hd;have hbur : ∀ u, Calls Tryz.prog 35 #[.string s] u (BurPost s.data.toList u) := fun u => buried_any s u hs
 unfold BurPost at hbur;generalize (decS s.data.toList).getD noTup = T at *;generalize (decS s.data.toList).isSome = D at *;generalize (buriedS s.data.toList).getD [] = K at *;generalize (buriedS s.data.toList).isSome = B at *;have HS := keep hS;have Hd := keep hd;have Hbur := keep hbur;clear hS hd hbur;go_enter Tryz.func15, Tryz.ntmps15;go_wp2_with fail;refine Hd.out.mono ?_;rintro e w1 ⟨rfl, hb1⟩;have hg1 : Grow w (w1.alloc (.cells (tuCells T).toArray 51)) := Grow.alloc hb1 _;have hT1 : Blk (w1.alloc (.cells (tuCells T).toArray 51)) w1.heap.size 51 (tuCells T) := Blk.new _ _ _;have hB := Hbur.out (w1.alloc (.cells (tuCells T).toArray 51));unfold tuCells at hg1 hB hT1;have HB := keep hB;clear hB;cases D with
 | true =>
  obtain ⟨d0, d1, d2, d3, d4⟩ := tures hT1;unfold tupV;go_wp2_with fail;go_ret2;rw [HS.out];exact ⟨rfl, hg1⟩
 | false =>
  unfold tupV;go_wp2_with fail;refine HB.out.mono ?_;rintro e w2 ⟨rfl, hb2⟩;have hg2 := Grow.trans hg1 hb2;clear HB Hbur hb2 hg1;go_wp2_with fail;go_ret2;rw [HS.out];exact ⟨rfl, hg2⟩
end Go.Proofs.YtmhepfehcakmjaaGreat
