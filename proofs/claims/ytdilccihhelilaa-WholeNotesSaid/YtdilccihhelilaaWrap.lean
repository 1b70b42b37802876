/- The walks of the two frames. -/
import Derived.Test.YtdilccihhelilaaSum
import Derived.Test.YtdilccihhelilaaBytes
namespace Go.Proofs.Ytdilccihhelilaa
open Go.RowKit

def be4 (n : Int) : List Int := [n / 16777216 % 256, n / 65536 % 256, n / 256 % 256, n % 256]
def le4 (n : Int) : List Int := [n % 256, n / 256 % 256, n / 65536 % 256, n / 16777216 % 256]
/-- A frame: the length, the bytes, their sum. -/
def frame (xs : List Int) : List Int := (be4 xs.length ++ xs) ++ le4 (sumB (be4 xs.length ++ xs))
theorem be4_bytes (n : Int) : Bytes (be4 n) := by
  intro x hx; simp only [be4, List.mem_cons, List.not_mem_nil, or_false] at hx; omega
theorem le4_bytes (n : Int) : Bytes (le4 n) := by
  intro x hx; simp only [le4, List.mem_cons, List.not_mem_nil, or_false] at hx; omega
theorem frame_bytes {xs : List Int} (h : Bytes xs) : Bytes (frame xs) := ((be4_bytes _).append h).append (le4_bytes _)
theorem frame_length (xs : List Int) : (frame xs).length = xs.length + 8 := by simp [frame, be4, le4]

/-- What Wrap answers of bytes that are not too many. -/
def Framed (w : World) (xs : List Int) (k : IntKind) (e : Ending) (w' : World) : Prop :=
  ∃ A c, e = .returned (.tuple #[.slice A (xs.length + 8) c, .int k 0]) ∧ OwnB w' w.heap.size (.slice A (xs.length + 8) c) (frame xs) ∧ Below w.heap.size w w'

set_option maxRecDepth 100000 in
set_option maxHeartbeats 400000 in
theorem wrap_long (A : Option Addr) (n c : Nat) (w : World) (hn : 1048576 < n) (hm : n ≤ maxLen) :
    Calls Try.prog 39 #[.slice A n c] w fun e w' => e = .returned (.tuple #[.slice none 0 0, .int .i64 2]) ∧ w = w' := by
  unfold maxLen at hm
  go_enter Try.func39, Try.ntmps39
  go_wp2_with fail
  go_ret2
  exact ⟨rfl, rfl⟩
set_option maxRecDepth 100000 in
set_option maxHeartbeats 1000000 in
theorem wrap_any (A : Option Addr) (c : Nat) (xs : List Int) (w : World) (hb : Bytes xs) (hr : ReadsB w w.heap.size A xs) (hn : xs.length ≤ 1048576) :
    Calls Try.prog 39 #[.slice A xs.length c] w (Framed w xs .i64) := by
  obtain ⟨i0, hi0, hz0, hz1, hz2⟩ := info_parts infoB
  go_enter Try.func39, Try.ntmps39
  have hbe : [Value.int .u8 ((xs.length : Int) / 16777216), .int .u8 ((xs.length : Int) / 65536), .int .u8 ((xs.length : Int) / 256 % 256), .int .u8 ((xs.length : Int) % 256)] = cellsOf .u8 (be4 xs.length) := by
    simp only [cellsOf, be4, List.map_cons, List.map_nil]
    rw [show (xs.length : Int) / 16777216 % 256 = (xs.length : Int) / 16777216 from by omega, show (xs.length : Int) / 65536 % 256 = (xs.length : Int) / 65536 from by omega]
  replace hbe := Lib.hid hbe
  have hbb := be4_bytes xs.length
  have hbl : (be4 xs.length).length = 4 := rfl
  replace hbl := Lib.hid hbl
  go_wp2_with (first
    | (at_make
       refine wpList_make_own _ rfl _ _ 27 rfl w.heap.size 5 i0 _ 1 Try.underlying27 hi0 hz0 hz1 _ _ _ (xs.length + 8) rfl rfl (by omega) (by rw [hz2]; omega) (by unfold maxLen; omega) (Nat.le_refl _) ?_
       intro w1 hown1 hg1
       have hbw1 : Below w.heap.size w w1 := grown_below hg1 (Nat.le_refl _) (fun _ h => by cases h))
    | (at_builtin
       refine wpList_appB _ rfl (.tmp 18) (.tmp 30) rfl w.heap.size (.slice (some ⟨w.heap.size, 0, none⟩) 0 (xs.length + 8)) [] rfl (OwnB.alloc (show OwnB w1 w.heap.size _ [] from hown1) _) _ _ 4 _ (be4 xs.length) rfl (ReadsB.new _ _ _ _ _ hbe.out) rfl
         (be4 xs.length) 4 rfl rfl (by omega) (by have := hbw1.size; simp; omega) ?_
       intro A2 c2 w2 hown2 _ hb2 _
       have hbw2 : Below w.heap.size w w2 := (hbw1.alloc hbw1.size _).trans hb2)
    | (at_builtin
       refine wpList_appB _ rfl (.tmp 32) (.tmp 33) rfl w.heap.size (.slice A2 4 c2) _ rfl hown2 w.heap.size A xs.length c xs rfl (hr.below hbw2) rfl
         (be4 xs.length ++ xs) (xs.length + 4) rfl (by rw [List.length_append, hbl.out]; omega) (by omega) hbw2.size ?_
       intro A3 c3 w3 hown3 _ hb3 _
       have hbw3 : Below w.heap.size w w3 := hbw2.trans hb3))
  have hlen : (be4 xs.length ++ xs).length = xs.length + 4 := by rw [List.length_append, hbl.out]; omega
  have hsum := sum_any A3 c3 (be4 xs.length ++ xs) w3 (hbb.append hb) hown3.reads (by unfold maxLen; omega)
  rw [hlen] at hsum
  replace hlen := Lib.hid hlen
  generalize hys : be4 xs.length ++ xs = ys at *
  replace hys := Lib.hid hys
  refine hsum.mono ?_
  rintro e w4 ⟨rfl, hb4⟩
  clear hsum
  have hbd := sumB_bd ys
  have hle : [Value.int .u8 (sumB ys % 256), .int .u8 (sumB ys / 256 % 256), .int .u8 (sumB ys / 65536 % 256), .int .u8 (sumB ys / 16777216)] = cellsOf .u8 (le4 (sumB ys)) := by
    simp only [cellsOf, le4, List.map_cons, List.map_nil]
    rw [show sumB ys / 16777216 % 256 = sumB ys / 16777216 from by omega]
  replace hle := Lib.hid hle
  have hln : (ys ++ le4 (sumB ys)).length = xs.length + 8 := by rw [List.length_append, hlen.out]; simp [le4]
  replace hln := Lib.hid hln
  have hbw4 : Below w.heap.size w w4 := hbw3.trans (hb4.mono hbw3.size)
  go_wp2_with (first
    | (at_builtin
       have _t := hbd
       refine wpList_appB _ rfl (.tmp 37) (.tmp 49) rfl w.heap.size (.slice A3 (xs.length + 4) c3) _ rfl (OwnB.alloc (hown3.below hb4) _) _ _ 4 _ (le4 (sumB ys)) rfl (ReadsB.new _ _ _ _ _ hle.out) rfl
         _ (xs.length + 8) rfl hln.out (by omega) (by have := hbw4.size; simp; omega) ?_
       intro A5 c5 w5 hown5 _ hb5 _))
  go_ret2
  exact ⟨A5, c5, rfl, by unfold frame; rw [hys.out]; exact hown5, (hbw4.alloc hbw4.size _).trans hb5⟩

end Go.Proofs.Ytdilccihhelilaa
