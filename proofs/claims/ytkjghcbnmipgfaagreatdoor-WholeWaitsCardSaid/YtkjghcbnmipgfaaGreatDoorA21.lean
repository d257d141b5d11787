/- Part of a proof over a Go program: Rd. No condition. -/
import Derived.Test.YtkjghcbnmipgfaaGreatDoorA20
import Derived.Test.YtkjghcbnmipgfaaGreatDoorA11
set_option linter.unusedSectionVars false
set_option linter.unusedSimpArgs false
set_option linter.unusedVariables false
namespace Go.Proofs.YtkjghcbnmipgfaaGreatDoor.Vc
open Go.RowKit Ma
section
variable {P : Program}
theorem rd_int {t : TypeId} {k : IntKind} (hu : P.underlying t = some (.int k)) {n : Nat} {cs : List PV} (h : RdT P n t cs) : ∃ m, cs = [.int k m] := by
  cases n with
  | zero => exact h.elim
  | succ n => unfold RdT at h; simpa only [hu] using h
theorem rd_bool {t : TypeId} (hu : P.underlying t = some .bool) {n : Nat} {cs : List PV} (h : RdT P n t cs) : ∃ m, cs = [.bool m] := by
  cases n with
  | zero => exact h.elim
  | succ n => unfold RdT at h; simpa only [hu] using h
theorem rd_struct {t : TypeId} {fs : Array Field} (hu : P.underlying t = some (.struct fs)) {n : Nat} {cs : List PV} (h : RdT P n t cs) : ∃ n', RdT.RdF (RdT P n') fs.toList cs := by
  cases n with
  | zero => exact h.elim
  | succ n => unfold RdT at h; exact ⟨n, by simpa only [hu] using h⟩
theorem all_map {α : Type} {f : α → PV} {rows : List PV} (h : ∀ row, row ∈ rows → ∃ x, row = f x) : ∃ l : List α, rows = l.map f := by
  induction rows with
  | nil => exact ⟨[], rfl⟩
  | cons r rs ih =>
    obtain ⟨x, hx⟩ := h r (by simp)
    obtain ⟨l, hl⟩ := ih fun row hr => h row (by simp [hr])
    exact ⟨x :: l, by rw [hx, hl]; rfl⟩
theorem rd_slice {t e : TypeId} (hu : P.underlying t = some (.slice e)) {n : Nat} {cs : List PV} (h : RdT P n t cs) {α : Type} {f : α → PV} (hf : ∀ n' rcs, RdT P n' e rcs → ∃ x, mkRow (isS P e) rcs = f x) :
    ∃ nl, ∃ l : List α, cs = [.sl (P.cellsOf e) nl (l.map f)] ∧ (nl = true → l = []) := by
  cases n with
  | zero => exact h.elim
  | succ n =>
    unfold RdT at h
    simp only [hu] at h
    obtain ⟨nl, rows, h1, h2, h3⟩ := h
    obtain ⟨l, rfl⟩ := all_map (f := f) (rows := rows) fun row hr => by
      obtain ⟨rcs, hr1, hr2⟩ := h3 row hr
      obtain ⟨x, hx⟩ := hf n rcs hr1
      exact ⟨x, hr2.trans hx⟩
    exact ⟨nl, l, h1, fun hn => by simpa using h2 hn⟩
end
theorem u2 : Tryz.prog.underlying 2 = some (.int .i64) := by kernel_rfl
theorem u3 : Tryz.prog.underlying 3 = some (.int .i64) := by kernel_rfl
theorem u4 : Tryz.prog.underlying 4 = some .bool := by kernel_rfl
theorem u22 : Tryz.prog.underlying 22 = some (.slice 3) := by kernel_rfl
theorem u25 : Tryz.prog.underlying 25 = some (.slice 52) := by kernel_rfl
theorem u26 : Tryz.prog.underlying 26 = some (.slice 86) := by kernel_rfl
theorem u36 : Tryz.prog.underlying 36 = some (.slice 50) := by kernel_rfl
theorem u52 : Tryz.prog.underlying 52 = some (.slice 30) := by kernel_rfl
theorem u24 : Tryz.prog.underlying 24 = some (.struct #[{ name := "Cores", type := 3, offset := 0, embedded := false, tag := "", pkgPath := "", byteOffset := 0 }, { name := "Syncs", type := 3, offset := 1, embedded := false, tag := "", pkgPath := "", byteOffset := 8 }, { name := "Lag", type := 2, offset := 2, embedded := false, tag := "", pkgPath := "", byteOffset := 16 }, { name := "Move", type := 2, offset := 3, embedded := false, tag := "", pkgPath := "", byteOffset := 24 }, { name := "Res", type := 22, offset := 4, embedded := false, tag := "", pkgPath := "", byteOffset := 32 }]) := by kernel_rfl
theorem u28 : Tryz.prog.underlying 28 = some (.struct #[{ name := "C", type := 2, offset := 0, embedded := false, tag := "", pkgPath := "", byteOffset := 0 }, { name := "D", type := 2, offset := 1, embedded := false, tag := "", pkgPath := "", byteOffset := 8 }, { name := "T", type := 2, offset := 2, embedded := false, tag := "", pkgPath := "", byteOffset := 16 }, { name := "Secs", type := 26, offset := 3, embedded := false, tag := "", pkgPath := "", byteOffset := 24 }]) := by kernel_rfl
theorem u30 : Tryz.prog.underlying 30 = some (.struct #[{ name := "C", type := 2, offset := 0, embedded := false, tag := "", pkgPath := "", byteOffset := 0 }, { name := "D", type := 2, offset := 1, embedded := false, tag := "", pkgPath := "", byteOffset := 8 }, { name := "T", type := 2, offset := 2, embedded := false, tag := "", pkgPath := "", byteOffset := 16 }]) := by kernel_rfl
theorem u38 : Tryz.prog.underlying 38 = some (.struct #[{ name := "Kind", type := 3, offset := 0, embedded := false, tag := "", pkgPath := "", byteOffset := 0 }, { name := "Pieces", type := 36, offset := 1, embedded := false, tag := "", pkgPath := "", byteOffset := 8 }]) := by kernel_rfl
theorem u50 : Tryz.prog.underlying 50 = some (.struct #[{ name := "Core", type := 3, offset := 0, embedded := false, tag := "", pkgPath := "", byteOffset := 0 }, { name := "Off", type := 2, offset := 1, embedded := false, tag := "", pkgPath := "", byteOffset := 8 }, { name := "Len", type := 2, offset := 2, embedded := false, tag := "", pkgPath := "", byteOffset := 16 }, { name := "C", type := 2, offset := 3, embedded := false, tag := "", pkgPath := "", byteOffset := 24 }]) := by kernel_rfl
theorem u86 : Tryz.prog.underlying 86 = some (.struct #[{ name := "Res", type := 3, offset := 0, embedded := false, tag := "", pkgPath := "", byteOffset := 0 }, { name := "At", type := 2, offset := 1, embedded := false, tag := "", pkgPath := "", byteOffset := 8 }, { name := "Len", type := 2, offset := 2, embedded := false, tag := "", pkgPath := "", byteOffset := 16 }]) := by kernel_rfl
theorem s3 : isS Tryz.prog 3 = false := by kernel_rfl
theorem s30 : isS Tryz.prog 30 = true := by kernel_rfl
theorem s50 : isS Tryz.prog 50 = true := by kernel_rfl
theorem s52 : isS Tryz.prog 52 = false := by kernel_rfl
theorem s86 : isS Tryz.prog 86 = true := by kernel_rfl
theorem c3 : Tryz.prog.cellsOf 3 = 1 := by kernel_rfl
theorem c30 : Tryz.prog.cellsOf 30 = 3 := by kernel_rfl
theorem c50 : Tryz.prog.cellsOf 50 = 4 := by kernel_rfl
theorem c52 : Tryz.prog.cellsOf 52 = 1 := by kernel_rfl
theorem c86 : Tryz.prog.cellsOf 86 = 3 := by kernel_rfl
theorem rdLd {n : Nat} {cs : List PV} (h : RdT Tryz.prog n 30 cs) : ∃ x : Ld, mkRow true cs = eL x := by
  obtain ⟨m, h⟩ := rd_struct u30 h
  obtain ⟨a, r, rfl, h1, b, r2, rfl, h2, c, r3, rfl, h3, rfl⟩ := h
  obtain ⟨x, rfl⟩ := rd_int u2 h1
  obtain ⟨y, rfl⟩ := rd_int u2 h2
  obtain ⟨z, rfl⟩ := rd_int u2 h3
  exact ⟨⟨x, y, z⟩, rfl⟩
theorem rdSec {n : Nat} {cs : List PV} (h : RdT Tryz.prog n 86 cs) : ∃ x : Sec, mkRow true cs = eS x := by
  obtain ⟨m, h⟩ := rd_struct u86 h
  obtain ⟨a, r, rfl, h1, b, r2, rfl, h2, c, r3, rfl, h3, rfl⟩ := h
  obtain ⟨x, rfl⟩ := rd_int u3 h1
  obtain ⟨y, rfl⟩ := rd_int u2 h2
  obtain ⟨z, rfl⟩ := rd_int u2 h3
  exact ⟨⟨x, y, z⟩, rfl⟩
theorem rdPc {n : Nat} {cs : List PV} (h : RdT Tryz.prog n 50 cs) : ∃ x : Pc, mkRow true cs = eP x := by
  obtain ⟨m, h⟩ := rd_struct u50 h
  obtain ⟨a, r, rfl, h1, b, r2, rfl, h2, c, r3, rfl, h3, d, r4, rfl, h4, rfl⟩ := h
  obtain ⟨x, rfl⟩ := rd_int u3 h1
  obtain ⟨y, rfl⟩ := rd_int u2 h2
  obtain ⟨z, rfl⟩ := rd_int u2 h3
  obtain ⟨v, rfl⟩ := rd_int u2 h4
  exact ⟨⟨x, y, z, v⟩, rfl⟩
theorem rdLds {n : Nat} {cs : List PV} (h : RdT Tryz.prog n 52 cs) : ∃ x : Bool × List Ld, cs = [eC x] ∧ (x.1 = true → x.2 = []) := by
  obtain ⟨nl, l, rfl, hn⟩ := rd_slice u52 h (f := eL) fun n' rcs hr => by rw [s30]; exact rdLd hr
  exact ⟨(nl, l), by rw [c30]; rfl, hn⟩
theorem rdLL {n : Nat} {cs : List PV} (h : RdT Tryz.prog n 25 cs) : ∃ nl, ∃ ls : LL, cs = [sLL nl ls] ∧ (nl = true → ls = []) ∧ ∀ p, p ∈ ls → p.1 = true → p.2 = [] := by
  obtain ⟨nl, l, rfl, hn⟩ := rd_slice u25 h (α := {p : Bool × List Ld // p.1 = true → p.2 = []}) (f := fun p => eC p.1) fun n' rcs hr => by
    obtain ⟨x, rfl, hx⟩ := rdLds hr
    rw [s52]
    exact ⟨⟨x, hx⟩, rfl⟩
  refine ⟨nl, l.map (·.1), ?_, fun h => by rw [hn h]; rfl, fun p hp => ?_⟩
  · rw [c52]; simp [sLL]
  · obtain ⟨q, _, rfl⟩ := List.mem_map.1 hp
    exact q.2
theorem rdCf {n : Nat} {cs : List PV} (h : RdT Tryz.prog n 24 cs) : ∃ c : Cf, mkRow true cs = eCf c ∧ (c.nl = true → c.res = []) := by
  obtain ⟨m, h⟩ := rd_struct u24 h
  obtain ⟨a, r, rfl, h1, b, r2, rfl, h2, c, r3, rfl, h3, d, r4, rfl, h4, e, r5, rfl, h5, rfl⟩ := h
  obtain ⟨x, rfl⟩ := rd_int u3 h1
  obtain ⟨y, rfl⟩ := rd_int u3 h2
  obtain ⟨z, rfl⟩ := rd_int u2 h3
  obtain ⟨v, rfl⟩ := rd_int u2 h4
  obtain ⟨nl, l, rfl, hn⟩ := rd_slice u22 h5 (f := eI) fun n' rcs hr => by
    obtain ⟨q, rfl⟩ := rd_int u3 hr
    rw [s3]; exact ⟨q, rfl⟩
  exact ⟨⟨x, y, z, v, nl, l⟩, by rw [c3]; rfl, hn⟩
theorem rdTk {n : Nat} {cs : List PV} (h : RdT Tryz.prog n 28 cs) : ∃ t : Tk, mkRow true cs = eT t ∧ (t.nl = true → t.secs = []) := by
  obtain ⟨m, h⟩ := rd_struct u28 h
  obtain ⟨a, r, rfl, h1, b, r2, rfl, h2, c, r3, rfl, h3, d, r4, rfl, h4, rfl⟩ := h
  obtain ⟨x, rfl⟩ := rd_int u2 h1
  obtain ⟨y, rfl⟩ := rd_int u2 h2
  obtain ⟨z, rfl⟩ := rd_int u2 h3
  obtain ⟨nl, l, rfl, hn⟩ := rd_slice u26 h4 (f := eS) fun n' rcs hr => by rw [s86]; exact rdSec hr
  exact ⟨⟨x, y, z, nl, l⟩, by rw [c86]; rfl, hn⟩
theorem rdPl {n : Nat} {cs : List PV} (h : RdT Tryz.prog n 38 cs) : ∃ kind nl, ∃ ps : List Pc, mkRow true cs = ePl kind nl ps ∧ (nl = true → ps = []) := by
  obtain ⟨m, h⟩ := rd_struct u38 h
  obtain ⟨a, r, rfl, h1, b, r2, rfl, h2, rfl⟩ := h
  obtain ⟨x, rfl⟩ := rd_int u3 h1
  obtain ⟨nl, l, rfl, hn⟩ := rd_slice u36 h2 (f := eP) fun n' rcs hr => by rw [s50]; exact rdPc hr
  exact ⟨x, nl, l, by rw [c50]; rfl, hn⟩
end Go.Proofs.YtkjghcbnmipgfaaGreatDoor.Vc
