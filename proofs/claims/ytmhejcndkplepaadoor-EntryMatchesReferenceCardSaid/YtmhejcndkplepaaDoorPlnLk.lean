/-
  Plain law: two rounds of 'link' give the classes. No program in sight.
-/
import Derived.Test.YtmhejcndkplepaaDoorEnN
import Derived.Test.YtmhejcndkplepaaDoorPlnSo
namespace Go.Proofs.YtmhejcndkplepaaDoor

theorem getD_map_at {l : List Ent} {f : Ent → List UInt8} {i : Nat} {a : Ent} (h : l[i]? = some a) : (l.map f).getD i [] = f a := by
  rw [List.getD_eq_getElem?_getD, List.getElem?_map, h]; rfl
theorem at_of_lt {l : List Ent} {i : Nat} (h : i < l.length) : ∃ a, l[i]? = some a := ⟨_, List.getElem?_eq_getElem h⟩
theorem conn_names {l : List Ent} {x y : Nat} (hx : x < l.length) (hy : y < l.length) (h : (l.map Pty.name).getD x [] = (l.map Pty.name).getD y []) : Conn l x y := by
  obtain ⟨a, ha⟩ := at_of_lt hx
  obtain ⟨b, hb⟩ := at_of_lt hy
  rw [getD_map_at ha, getD_map_at hb] at h
  exact .one ⟨a, b, ha, hb, Or.inl h⟩
theorem conn_pays {l : List Ent} {x y : Nat} (hx : x < l.length) (hy : y < l.length) (h : (l.map Pty.com).getD x [] = (l.map Pty.com).getD y []) : Conn l x y := by
  obtain ⟨a, ha⟩ := at_of_lt hx
  obtain ⟨b, hb⟩ := at_of_lt hy
  rw [getD_map_at ha, getD_map_at hb] at h
  exact .one ⟨a, b, ha, hb, Or.inr h⟩
theorem compl_link {l : List Ent} {R0 R1 R2 : Nat → Nat} {o1 o2 : List Nat} (h1 : Linked l l.length R0 R1 (l.map Pty.name) o1 o1.length) (h2 : Linked l l.length R1 R2 (l.map Pty.com) o2 o2.length)
    (s1 : Sorted (l.map Pty.name) (List.range l.length) o1) (s2 : Sorted (l.map Pty.com) (List.range l.length) o2) : Compl l l.length R2 := by
  intro i j hi hj ⟨a, b, ha, hb, hab⟩
  rcases hab with h | h
  · exact h2.old i j (s1.same h1.adj (List.mem_range.2 hi) (List.mem_range.2 hj) (by rw [getD_map_at ha, getD_map_at hb]; exact h))
  · exact s2.same h2.adj (List.mem_range.2 hi) (List.mem_range.2 hj) (by rw [getD_map_at ha, getD_map_at hb]; exact h)
theorem getD_range {n i : Nat} (h : i < n) : (List.range n).getD i 0 = i := by simp [List.getD_eq_getElem?_getD, h]
theorem uf_range (n : Nat) : UF n (List.range n) id where
  len := by simp
  le i hi := by rw [getD_range hi]; exact Nat.le_refl _
  rt i hi := by rw [getD_range hi]
  fx i hi := by rw [getD_range hi]; simp
  rr i _ := rfl
  rle i _ := Nat.le_refl _
theorem sound_id (l : List Ent) (n : Nat) : Sound l n id := fun i _ => .refl i
end Go.Proofs.YtmhejcndkplepaaDoor
