/- Words for the law RingMemory: pushes of whatever bytes, the iterator's contract, strings out of slices. Conditions: as each theorem names them. -/
import Derived.Test.YtmnhnjljapabdaaRingAll
import Derived.Lib.SlBytesRow
set_option linter.unusedVariables false
namespace Go.Proofs.Ytmnhnjljapabdaa
open Go.ChangeShapes Go.WideShapes Go.ChangeAt Go.RowKit Go.Shelf
open Go.Lib (Bytes)

/-- a slice value that came in, or was made: so many bytes -/
def Reads (W : World) (v : Value) (B : ByteArray) : Prop := (v = .slice none 0 0 ∧ B.size = 0) ∨ (∃ p c, v = .slice (some p) 0 c ∧ B.size = 0) ∨ ∃ g off c, v = .slice (some ⟨g, off, none⟩) B.size c ∧ 0 < B.size ∧ B.size ≤ c ∧ c ≤ maxLen ∧ g < W.heap.size ∧ Bytes W g off B
theorem Reads.below {W W' : World} {v : Value} {B : ByteArray} {b : Nat} (h : Reads W v B) (hb : Below b W W') (hW : W.heap.size ≤ b) : Reads W' v B := by
  rcases h with h | h | ⟨g, off, c, rfl, h0, h1, h2, h3, h4⟩
  · exact .inl h
  · exact .inr (.inl h)
  · exact .inr (.inr ⟨g, off, c, rfl, h0, h1, h2, Nat.lt_of_lt_of_le h3 hb.size, bytes_below h4 hb (by omega)⟩)
theorem Reads.form {W : World} {v : Value} {B : ByteArray} (h : Reads W v B) : ∃ ao c, v = .slice ao B.size c := by
  rcases h with ⟨rfl, h⟩ | ⟨p, c, rfl, h⟩ | ⟨g, off, c, rfl, _⟩
  · rw [h]; exact ⟨_, _, rfl⟩
  · rw [h]; exact ⟨_, _, rfl⟩
  · exact ⟨_, _, rfl⟩

/-- the packet that is kept of bytes -/
def pkt (B : ByteArray) : ByteArray := B.extract 0 (min B.size 32)
theorem pkt_size (B : ByteArray) : (pkt B).size = min B.size 32 := by unfold pkt; rw [ByteArray.size_extract]; omega
theorem cells_pkt (B : ByteArray) : cellsOf (pkt B) (pkt B).size = cellsOf B (min B.size 32) := by
  rw [pkt_size]
  apply List.ext_getElem
  · simp [cellsOf]
  · intro i h1 h2
    have hi : i < min B.size 32 := by simpa [cellsOf] using h2
    have h3 : i < (pkt B).size := by rw [pkt_size]; exact hi
    have h4 : i < B.size := by omega
    simp only [cellsOf, List.getElem_map, List.getElem_range]
    simp only [h3, h4, getElem?_pos, Option.getD_some]
    congr 2
    simp [pkt, ByteArray.getElem_extract]

theorem holds_convert {W : World} {v : Value} {B : ByteArray} (h : Holds W v B) : (convert 22 9 v).run Try.prog W = .ok (.string B) W := by
  rcases h with ⟨rfl, h0⟩ | ⟨g, cap, rfl, _, hb⟩
  · have e : B = ByteArray.empty := by
      apply ByteArray.ext
      exact Array.eq_empty_of_size_eq_zero h0
    rw [e]; rfl
  · exact Go.Lib.run_convert_whole (P := Try.prog) W 22 5 9 Try.underlying22 Try.underlying5 Try.underlying9 g 0 _ hb cap

theorem all_any (b : Nat) (w : World) : Calls Try.prog 13 #[.pointer (some ⟨b, 0, none⟩)] w fun e w' => e = .returned (.func (.func 15) #[] #[.pointer (some ⟨w.heap.size, 0, none⟩)]) ∧ w.alloc (.cells #[.pointer (some ⟨b, 0, none⟩)] 43) = w' := by
  go_enter Try.func13, Try.ntmps13
  go_wp2_with fail
  go_ret
  exact ⟨rfl, rfl⟩

theorem all_told (b a m n₀ Bn : Nat) (sv : Nat → Value) (pk : Nat → ByteArray) (K : Nat → Prop) (w : World) (ha : a < 8) (hm : m ≤ 8) (hn₀ : n₀ ≤ w.heap.size)
    (hK : ∀ q, K q → q < w.heap.size) (hBn : w.cell? ⟨Bn, 0, none⟩ = some (.pointer (some ⟨b, 0, none⟩))) (kBn : K Bn) (kb : K b) (hR : RingAt b a m sv pk w) (kp : ∀ k, k < m → ∀ q, (sv k).ownBlock = some q → K q) :
    SeqTold Fence.wide 1 Try.prog 15 #[.pointer (some ⟨Bn, 0, none⟩)] (fun x : Value => #[x]) (fun pre x W1 => pre.length < m ∧ Packet W1 n₀ x (pk pre.length)) (KeptB K) (fun xs => xs.length = m) w := fun l J Jx W hW hJ hY h0 => by
  have hk : KeptB K w W := ⟨hW.size, fun q hq => hW.block q (hK q hq)⟩
  exact all1_in l Bn b a m n₀ sv pk K J Jx W ha hm hJ (Nat.le_trans hn₀ hW.size) hY (fun q hq => Nat.lt_of_lt_of_le (hK q hq) hW.size) ((hk.cell (p := ⟨Bn, 0, none⟩) kBn).trans hBn) kBn kb
    ⟨(hk.cell (p := ⟨b, 8, none⟩) kb).trans hR.c8, (hk.cell (p := ⟨b, 9, none⟩) kb).trans hR.c9, fun k hkm => (hk.cell (p := ⟨b, (a + k) % 8, none⟩) kb).trans (hR.cq k hkm), fun k hkm => ⟨hk.holds (hR.pk k hkm).1 (kp k hkm), (hR.pk k hkm).2⟩⟩ kp h0

/-- a push of whatever bytes into a ring that has room -/
theorem RS.push_reads {b a n : Nat} {f : Nat → Value} {w0 wr : World} {v : Value} {B : ByteArray} (h : RS b a n f w0 wr) (ha : a < 8) (hn : n < 8) (hv : Reads wr v B) :
    Calls Try.prog 8 #[.pointer (some ⟨b, 0, none⟩), v] wr fun e w' => e = .returned (.bool true) ∧ ∃ x, RS b a (n + 1) (fun i => if i = (a + n) % 8 then x else f i) w0 w' ∧ Packet w' wr.heap.size x (pkt B) ∧ wr.grownBy w' (some b) := by
  have hq : (a + n) % 8 < 8 := Nat.mod_lt _ (by decide)
  have nil : ∀ w', Pushed b ((a + n) % 8) n 0 [] wr w' → w'.cell? ⟨b, (a + n) % 8, none⟩ = some (.slice none 0 0) → B.size = 0 → ∃ x, RS b a (n + 1) (fun i => if i = (a + n) % 8 then x else f i) w0 w' ∧ Packet w' wr.heap.size x (pkt B) ∧ wr.grownBy w' (some b) := by
    intro w' hp hc h0
    have hs : (pkt B).size = 0 := by rw [pkt_size]; omega
    refine ⟨_, h.pushed hq hp hc, ⟨?_, fun _ => rfl⟩, hp.env⟩
    have e : cellsOf (pkt B) (pkt B).size = [] := by rw [hs]; rfl
    rw [e, hs]
    exact World.ownsRow_nil _ _ _ _
  rcases hv with ⟨rfl, h0⟩ | ⟨p, c, rfl, h0⟩ | ⟨g, off, c, rfl, h0, h1, h2, h3, hby⟩
  · refine (push_nil b a n _ _ wr h.c8 h.c9 (h.cq _ hq) rfl h.fr ha hn h.hb).mono ?_
    rintro e w' ⟨rfl, hp, hc⟩
    exact ⟨rfl, nil w' hp hc h0⟩
  · refine (push_zero b c a n _ p _ wr h.c8 h.c9 (h.cq _ hq) rfl h.fr ha hn h.hb).mono ?_
    rintro e w' ⟨rfl, hp, hc⟩
    exact ⟨rfl, nil w' hp hc h0⟩
  · refine (push_gen b g off a n _ B.size (min B.size 32) c (cellsOf B (min B.size 32)) _ wr h.c8 h.c9 (h.cq _ hq) rfl h.fr ha hn h.hb rfl (by omega) (by omega) (by rw [cellsOf_length]; omega) (bytes_cells hby (by omega)) (cellsOf_one B _)).mono ?_
    rintro e w' ⟨rfl, hp⟩
    obtain ⟨x, hx, ho⟩ := hp.val
    refine ⟨rfl, x, h.pushed hq hp hx, ⟨?_, fun hz => ?_⟩, hp.env⟩
    · rw [cells_pkt, pkt_size]; exact ho
    · rw [pkt_size] at hz; omega
theorem RS.pop_some {b j n : Nat} {f : Nat → Value} {w0 wr : World} (h : RS b j n f w0 wr) (hj : j < 8) (hn : 0 < n) (hn8 : n ≤ 8) :
    Calls Try.prog 9 #[.pointer (some ⟨b, 0, none⟩)] wr fun e w' => e = .returned (.tuple #[f j, .bool true]) ∧ RS b ((j + 1) % 8) (n - 1) (fun i => if i = j then .slice none 0 0 else f i) w0 w' ∧ wr.grownBy w' (some b) := by
  refine (_root_.Go.Proofs.Ytmnhnjljapabdaa.pop_some b j n _ wr h.c8 h.c9 (h.cq j hj) h.fr hj hn hn8 h.hb).mono ?_
  rintro e w' ⟨rfl, hp⟩
  exact ⟨rfl, h.popped hj hp, hp.env⟩
end Go.Proofs.Ytmnhnjljapabdaa
