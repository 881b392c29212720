/- The TZs that a draft makes, the plain laws: each is right. No program in sight. -/
import Derived.Test.YtgllbagmmpicaaaGreatDoorPxQ
import Derived.Test.YtgllbagmmpicaaaGreatDoorPzP
namespace Go.Proofs.YtgllbagmmpicaaaGreatDoor.Px
open Go.RowKit
open Civ

/-- a TZ by numbers -/
structure Drf where
  n0 : Int
  n1 : Int
  o0 : Int
  o1 : Int
  k0 : Int
  k1 : Int
  d0 : Int
  d1 : Int
  s0 : Int
  s1 : Int
  non : Bool
def Drf.val (d : Drf) : Value := .agg #[.int .u8 d.n0, .int .u8 d.n1, .int .u8 d.o0, .int .u8 d.o1, .int .u8 d.k0, .int .u8 d.k1, .int .u8 d.d0, .int .u8 d.d1, .int .u8 d.s0, .int .u8 d.s1, .bool d.non]
def U8 (x : Int) : Prop := 0 ≤ x ∧ x ≤ 255
structure Drf.In (d : Drf) : Prop where
  n0 : U8 d.n0
  n1 : U8 d.n1
  o0 : U8 d.o0
  o1 : U8 d.o1
  k0 : U8 d.k0
  k1 : U8 d.k1
  d0 : U8 d.d0
  d1 : U8 d.d1
  s0 : U8 d.s0
  s1 : U8 d.s1
def names8 : List (List UInt8) := [[67, 69, 84], [67, 69, 83, 84], [43, 48, 53], [45, 48, 51, 51, 48], [65, 66, 67, 68, 69, 70, 71], [65, 49, 45], [88, 88, 88], [103, 109, 116]]
def nameL8 (n : Int) : List UInt8 := names8.getD (n % 8).toNat []
def nameN (n : Int) : ByteArray := bs (nameL8 n)
def offN (n : Int) : Int := (n - 128) * 700
def secs8 : List Int := [7200, 0, 86400, 3600, -3600, 604799, -604799, 5400]
def secN (s : Int) : Int := secs8.getD (s % 8).toNat 0
def madeDt (k d s : Int) : Dt :=
  if k % 3 = 0 then ⟨1, 1 + (d + s * 40) % 365, 0, 0, secN s⟩
  else if k % 3 = 1 then ⟨2, (d + s * 40) % 366, 0, 0, secN s⟩
  else ⟨3, d / 60 % 7, 1 + d % 12, 1 + d / 12 % 5, secN s⟩
def dstN (o0 o1 : Int) : Int := if o1 % 3 = 0 then (if 89999 < offN o0 + 3600 then 89999 else offN o0 + 3600) else offN o1
/-- the TZ -/
def Drf.made (d : Drf) : Pos :=
  if d.non then ⟨nameN d.n0, offN d.o0, bs [], 0, Dt.zero, Dt.zero⟩
  else ⟨nameN d.n0, offN d.o0, nameN d.n1, dstN d.o0 d.o1, madeDt d.k0 d.d0 d.s0, madeDt d.k1 d.d1 d.s1⟩
theorem names_all {P : List UInt8 → Prop} (h : ∀ l ∈ names8, P l) (n : Int) : P (nameL8 n) := by
  have h8 : (n % 8).toNat < 8 := by omega
  unfold nameL8
  obtain ⟨k, hk⟩ : ∃ k, (n % 8).toNat = k := ⟨_, rfl⟩
  rw [hk] at h8 ⊢
  apply h
  have : names8.getD k [] = names8[k]'(h8) := by simp [names8, h8]
  rw [this]
  exact List.getElem_mem _
theorem secs_all {P : Int → Prop} (h : ∀ l ∈ secs8, P l) (n : Int) : P (secN n) := by
  have h8 : (n % 8).toNat < 8 := by omega
  unfold secN
  obtain ⟨k, hk⟩ : ∃ k, (n % 8).toNat = k := ⟨_, rfl⟩
  rw [hk] at h8 ⊢
  apply h
  have : secs8.getD k 0 = secs8[k]'(h8) := by simp [secs8, h8]
  rw [this]
  exact List.getElem_mem _
theorem name_ok (n : Int) : nameOk (nameN n).data.toList = true := by
  unfold nameN
  rw [bs_list]
  exact names_all (P := fun l => nameOk l = true) (by decide) n
theorem name_size (n : Int) : 3 ≤ (nameN n).size ∧ (nameN n).size ≤ 7 := by
  have := names_all (P := fun l => 3 ≤ l.length ∧ l.length ≤ 7) (by decide) n
  unfold nameN bs
  exact this
theorem name_ne (n : Int) : (nameN n).toList.isEmpty = false := by
  unfold nameN
  rw [ByteArray.toList_eq, bs_list]
  exact names_all (P := fun l => l.isEmpty = false) (by decide) n
theorem off_ok {n : Int} (h : U8 n) : offB (offN n) = true := by
  unfold U8 at h
  rw [offB_iff]
  unfold offN
  omega
theorem dst_ok {m n : Int} (h1 : U8 m) (h2 : U8 n) : offB (dstN m n) = true := by
  unfold U8 at h1 h2
  rw [offB_iff]
  unfold dstN offN
  split
  · split <;> omega
  · omega
theorem sec_bd (n : Int) : -604799 ≤ secN n ∧ secN n ≤ 604799 := secs_all (P := fun x => -604799 ≤ x ∧ x ≤ 604799) (by decide) n
theorem madeDt_ok {k d s : Int} (_ : U8 d) (_ : U8 s) : (madeDt k d s).ok = true := by
  have := sec_bd s
  rw [Dt.ok_iff]
  unfold madeDt
  split
  · dsimp only; omega
  · split
    · dsimp only; omega
    · dsimp only; omega
theorem made_ok (d : Drf) (h : d.In) : d.made.ok = true := by
  unfold Drf.made
  split
  · unfold Pos.ok Pos.stdB Pos.noneB noneQ
    dsimp only
    rw [name_ok, off_ok h.o0, ByteArray.toList_eq, bs_list]
    rfl
  · unfold Pos.ok Pos.stdB Pos.dstB
    dsimp only
    rw [name_ok, name_ok, off_ok h.o0, dst_ok h.o0 h.o1, madeDt_ok h.d0 h.s0, madeDt_ok h.d1 h.s1]
    simp
theorem made_size (d : Drf) : d.made.std.size ≤ 7 ∧ d.made.dst.size ≤ 7 := by
  unfold Drf.made
  split
  · exact ⟨(name_size _).2, show (bs []).size ≤ 7 by decide⟩
  · exact ⟨(name_size _).2, (name_size _).2⟩
theorem made_ne {d : Drf} (h : d.non = false) : d.made.dst.toList.isEmpty = false := by
  unfold Drf.made
  rw [h, if_neg (by decide)]
  exact name_ne _
end Go.Proofs.YtgllbagmmpicaaaGreatDoor.Px
