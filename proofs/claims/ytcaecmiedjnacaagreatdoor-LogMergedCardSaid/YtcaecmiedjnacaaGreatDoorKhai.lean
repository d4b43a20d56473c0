/- Own lemmas, used by the last text. Conditions: those that each theorem states. -/
import Derived.Lib.AtoiAll
import Derived.Lib.AtoiErrMem
import Derived.Lib.ItoaNum
import Derived.Lib.Join
import Derived.Lib.SplitLaws
import Derived.Test.YtcaecmiedjnacaaGreatDoorKhag
import Derived.Test.YtcaecmiedjnacaaGreatDoorKhah
set_option maxRecDepth 200000
set_option maxHeartbeats 8000000
namespace Go.Proofs.Tryz
open Go.Psl
open Go.Log
open Go.RowKit
abbrev strsV (l : List By) : List V := l.map fun x => vS x
theorem fn99 (k : Nat) (xs : List By) (sep : By) (h0 : xs ≠ []) (hN : xs.length <= 1000000) (hlen : (Go.Lib.join xs sep).length <= 140737488355328) : Cm prog 99 [.ls k 0 xs.length 1, vS sep] (lk [(k, strsV xs)]) [] (.ret (vS (Go.Lib.join xs sep))) (lk []) := by
 refine ⟨⟨_, func99, by kernel_rfl, by decide⟩, fun G W as0 hGW hargs hpre => ?_⟩
 obtain ⟨u, v0, rfl, hu, hs⟩ := two_args hargs
 have := rv_lit hs.rv
 subst this
 have hx0 : 0 < xs.length := List.length_pos_iff.2 h0
 obtain ⟨_, ⟨_, h, _⟩ | ⟨hph, o, cap, rfl, hcap, ho⟩⟩ := hu
 . omega
 obtain ⟨rfl, _⟩ := ho (by omega)
 obtain ⟨hnim, c, T, ⟨fz, hb, hfz⟩, hbs, hcl, hcr, _⟩ := (hpre.hb k (strsV xs) (by simp [lk])).read hph
 have hcell : ∀ (j : Nat) (x : ByteArray), (xs.map bs)[j]? = some x -> W.cell? ⟨G.β k, 0 + j, none⟩ = some (.string x) := fun j x hx => by
   rw [List.getElem?_map] at hx
   cases hj : xs[j]? with
   | none => rw [hj] at hx; cases hx
   | some y =>
     rw [hj] at hx
     cases hx
     have hy : (strsV xs)[j]? = some (vS y) := by simp [strsV, hj]
     obtain ⟨z, hz, hr⟩ := hcr.get hy
     rw [List.getElem?_take] at hz
     split at hz
     . have := rv_lit hr.r2.rv
       subst this
       simp only [World.cell?, hb, Nat.zero_add]
       simpa using hz
     . cases hz
 have hmap : (xs.map bs).map (·.data.toList) = xs := by
   rw [List.map_map]
   conv => rhs; rw [<- List.map_id xs]
   exact List.map_congr_left fun x _ => bs_toList x
 have key := Go.Proofs.Any.strings_Join joinL bldXj (G.β k) 0 cap (xs.map bs) (bs sep) W hcell (Array.getElem?_eq_some_iff.1 hb).1 (by simpa using (by omega : xs.length <= 140737488355328)) (by simpa using hcap) (by rw [hmap, bs_toList]; exact hlen)
 rw [hmap, bs_toList, List.length_map] at key
 refine Calls.mono key fun e W' ⟨he, hbw⟩ => ?_
 subst he
 exact ⟨G, ⟨hbw.os, hbw.tape, hbw.output, Nat.le_refl _, hbw.size, fun b hb' _ => hbw.block b hb', fun b hb' => ⟨Nat.lt_of_lt_of_le (hGW.1 b hb') hbw.size, .inl hb'⟩, fun _ h => h, RD.lit _ rfl, trivial, fun i cs h => (by cases h), fun i j h => (by simp [InH, lk] at h), fun i h => (by cases h)⟩⟩
theorem fn76a (s : By) (h0 : 0 < s.length) (hlen : s.length <= 1000000000) : Cm prog 76 [.yl 0, vS s] (lk [(0, [.d (.lit (.slice none 0 0)), vi 0])]) [0] (.ret (.tup [vi s.length, .d (.lit .nilIface)])) (lk (bldL (bs s))) := by
 have := wstr_first wstrL bldX rfl rfl ⟨_, func76, by kernel_rfl, by decide⟩ (bs s) (by rw [bs_size]; exact h0) (by simp only [bs_size]; omega)
 simp only [bs_size] at this
 exact this
theorem fn76b (t s : By) (h0 : 0 < s.length) (hlen : t.length + s.length <= 1000000000) : Cm prog 76 [.yl 0, vS s] (lk (bldL (bs t))) [0] (.ret (.tup [vi s.length, .d (.lit .nilIface)])) (lk (bldL (bs (t ++ s)))) := by
 have := wstr_next wstrL bldX rfl rfl ⟨_, func76, by kernel_rfl, by decide⟩ (bs t) (bs s) (by rw [bs_size]; exact h0) (by simp only [bs_size]; omega)
 simp only [bs_size, bs_append] at this
 exact this
theorem fn77 (t : By) (h0 : 0 < t.length) : Cm prog 77 [.yl 0] (lk (bldL (bs t))) [] (.ret (vS t)) (lk []) :=
 bstr_cm bstrL bldXb rfl rfl ⟨_, func77, by kernel_rfl, by decide⟩ (bs t) (by rw [bs_size]; exact h0)
def sgB (a b i : Nat) : Nat := if i = 0 then a else if i = 1 then b else a + b + i
theorem sgB_inj {a b : Nat} (h : a ≠ b) : ∀ i j, i < 2 -> j < 2 -> sgB a b i = sgB a b j -> i = j := by
 intro i j hi hj he
 unfold sgB at he
 (repeat' split at he) <;> omega
end Go.Proofs.Tryz
namespace Go.Log
def sumS : By -> Int -> Int
 | [], c => c
 | b :: r, c => sumS r ((c * 31 + (b.toNat : Int)) % 673)
theorem u8_lt (b : UInt8) : (b.toNat : Int) < 256 := by have := b.toNat_lt; omega
theorem sumS_bd : ∀ (s : By) (c : Int), 0 <= c -> c <= 1000000 -> 0 <= sumS s c /\ sumS s c <= 1000000
 | [], c, h0, h1 => ⟨h0, h1⟩
 | b :: r, c, h0, h1 => by
   unfold sumS
   exact sumS_bd r _ (Int.emod_nonneg _ (by decide)) (by have := Int.emod_lt_of_pos (c * 31 + (b.toNat : Int)) (show (0 : Int) < 673 by decide); omega)
theorem sumS_lt (s : By) (c : Int) (h0 : 0 <= c) (h1 : c < 673) : 0 <= sumS s c /\ sumS s c < 673 := by
 induction s generalizing c with
 | nil => exact ⟨h0, h1⟩
 | cons b r ih =>
   unfold sumS
   exact ih _ (Int.emod_nonneg _ (by decide)) (Int.emod_lt_of_pos _ (by decide))
theorem sumS_snoc (s : By) (b : UInt8) (c : Int) : sumS (s ++ [b]) c = (sumS s c * 31 + (b.toNat : Int)) % 673 := by
 induction s generalizing c with
 | nil => rfl
 | cons a r ih => simp only [List.cons_append, sumS, ih]
theorem sumS_take {s : By} {i : Nat} {b : UInt8} (h : s[i]? = some b) (c : Int) : sumS (s.take (i + 1)) c = (sumS (s.take i) c * 31 + (b.toNat : Int)) % 673 := by
 rw [List.take_add_one, h]
 exact sumS_snoc _ _ _
def numS (n : Int) : By := Go.Lib.itoa n
def headS (s : By) (n : Int) : By := [76, 79, 71, 32] ++ s ++ [32] ++ numS n
def partsS (x : Etr) : List By := [numS x.t, x.w] ++ x.a.map numS ++ (if x.n = [] then [] else [[59], x.n])
def bodyS (x : Etr) : By := Go.Lib.join (partsS x) [32]
def letS (c : Int) : By := [UInt8.ofNat (97 + c / 26).toNat, UInt8.ofNat (97 + c % 26).toNat]
def lineS (b : By) (c : Int) : By := b ++ [32] ++ letS c ++ [10]
def chkS : Int -> List Etr -> Int
 | c, [] => c
 | c, x :: r => chkS (sumS (bodyS x) c) r
def linesS : Int -> List Etr -> By
 | _, [] => []
 | c, x :: r => lineS (bodyS x) (sumS (bodyS x) c) ++ linesS (sumS (bodyS x) c) r
def textS (l : Lg) : By := lineS (headS l.s l.es.length) (sumS (headS l.s l.es.length) 0) ++ linesS (sumS (headS l.s l.es.length) 0) l.es
theorem chkS_take {es : List Etr} : ∀ {c : Int} {i : Nat} {x : Etr}, es[i]? = some x -> chkS c (es.take (i + 1)) = sumS (bodyS x) (chkS c (es.take i)) := by
 induction es with
 | nil => intro c i x h; simp at h
 | cons y r ih =>
   intro c i x h
   cases i with
   | zero => simp at h; subst h; simp [chkS]
   | succ j =>
     simp at h
     simp only [List.take_succ_cons, chkS]
     exact ih h
theorem linesS_take {es : List Etr} : ∀ {c : Int} {i : Nat} {x : Etr}, es[i]? = some x -> linesS c (es.take (i + 1)) = linesS c (es.take i) ++ lineS (bodyS x) (sumS (bodyS x) (chkS c (es.take i))) := by
 induction es with
 | nil => intro c i x h; simp at h
 | cons y r ih =>
   intro c i x h
   cases i with
   | zero => simp at h; subst h; simp [linesS, chkS]
   | succ j =>
     simp at h
     simp only [List.take_succ_cons, linesS, chkS, List.append_assoc]
     rw [ih h]
theorem chkS_lt : ∀ (es : List Etr) (c : Int), 0 <= c -> c < 673 -> 0 <= chkS c es /\ chkS c es < 673
 | [], c, h0, h1 => ⟨h0, h1⟩
 | x :: r, c, h0, h1 => by
   have := sumS_lt (bodyS x) c h0 h1
   exact chkS_lt r _ this.1 this.2
theorem nDigits_le : ∀ (k u : Nat), u < 10 ^ (k + 1) -> Go.Lib.nDigits u <= k + 1
 | 0, u, h => by rw [Go.Lib.nDigits_small (by simpa using h)]; omega
 | k + 1, u, h => by
   by_cases hu : u < 10
   . rw [Go.Lib.nDigits_small hu]; omega
   . rw [Go.Lib.nDigits_big hu]
     have := nDigits_le k (u / 10) (by rw [Nat.div_lt_iff_lt_mul (by decide)]; rw [Nat.pow_succ] at h; omega)
     omega
theorem numS_len (n : Int) (h0 : -10000000000 < n) (h1 : n < 10000000000) : (numS n).length <= 11 := by
 unfold numS Go.Lib.itoa
 split
 . simp only [List.length_cons, Go.Lib.decDigits_length]
   have := nDigits_le 9 n.natAbs (by omega)
   omega
 . rw [Go.Lib.decDigits_length]
   have := nDigits_le 9 n.toNat (by omega)
   omega
theorem joinTail_len (sep : By) (m : Nat) : ∀ (r : List By), (∀ x ∈ r, x.length <= m) -> (Go.Lib.joinTail sep r).length <= r.length * (sep.length + m)
 | [], _ => by simp [Go.Lib.joinTail]
 | x :: r, h => by
   have h1 := h x (by simp)
   have ih := joinTail_len sep m r fun y hy => h y (by simp [hy])
   simp only [Go.Lib.joinTail, List.map_cons, List.flatten_cons, List.length_append, List.length_cons] at ih ⊢
   rw [Nat.add_mul]
   omega
theorem join_len (sep : By) (m : Nat) (xs : List By) (h : ∀ x ∈ xs, x.length <= m) : (Go.Lib.join xs sep).length <= xs.length * (sep.length + m) := by
 cases xs with
 | nil => simp [Go.Lib.join, List.intercalate]
 | cons x r =>
   rw [Go.Lib.join_cons]
   have h1 := h x (by simp)
   have ih := joinTail_len sep m r fun y hy => h y (by simp [hy])
   simp only [List.length_append, List.length_cons]
   rw [Nat.add_mul]
   omega
theorem entS_parts {x : Etr} (h : entS x = true) : (∀ y ∈ partsS x, y.length <= 40) /\ (partsS x).length <= 10 := by
 simp only [entS, wordS, madeS, betw, Bool.and_eq_true, decide_eq_true_eq] at h
 obtain ⟨⟨⟨⟨⟨ht0, ht1⟩, _, hw0, hw1⟩, ha⟩, hag⟩, hn⟩ := h
 have hnl : x.n.length <= 40 := by
   simp only [noteS, madeS, betw, Bool.or_eq_true, Bool.and_eq_true, decide_eq_true_eq] at hn
   rcases hn with hn | ⟨_, _, _, hn⟩
   . rw [hn]; simp
   . omega
 constructor
 . intro y hy
   simp only [partsS, List.mem_append, List.mem_cons, List.not_mem_nil, or_false, List.mem_map] at hy
   rcases hy with ((rfl | rfl) | ⟨n, hn', rfl⟩) | hy
   . have := numS_len x.t (by omega) (by omega); omega
   . omega
   . have := List.all_eq_true.1 hag n hn'
     simp only [argB, betw, Bool.and_eq_true, decide_eq_true_eq] at this
     have := numS_len n (by omega) (by omega); omega
   . split at hy
     . cases hy
     . simp only [List.mem_cons, List.not_mem_nil, or_false] at hy
       rcases hy with rfl | rfl
       . simp
       . exact hnl
 . simp only [partsS, List.length_append, List.length_cons, List.length_nil, List.length_map]
   split <;> simp <;> omega
theorem body_len {x : Etr} (h : entS x = true) : (bodyS x).length <= 410 := by
 obtain ⟨h1, h2⟩ := entS_parts h
 have := join_len [32] 40 (partsS x) h1
 unfold bodyS
 simp only [List.length_cons, List.length_nil] at this
 omega
theorem line_len (b : By) (c : Int) : (lineS b c).length = b.length + 4 := by simp [lineS, letS]
theorem lines_len : ∀ (es : List Etr) (c : Int), (∀ x ∈ es, entS x = true) -> (linesS c es).length <= es.length * 414
 | [], _, _ => by simp [linesS]
 | x :: r, c, h => by
   have h1 := body_len (h x (by simp))
   have ih := lines_len r (sumS (bodyS x) c) fun y hy => h y (by simp [hy])
   simp only [linesS, List.length_append, line_len, List.length_cons]
   omega
theorem ordS_ents {es : List Etr} {last : Int} (h : ordS last es = true) : ∀ x ∈ es, entS x = true := by
 intro x hx
 obtain ⟨i, hi⟩ := List.getElem?_of_mem hx
 exact (ordS_drop h hi).1
end Go.Log
namespace Go.Proofs.Tryz
open Go.Psl
open Go.Log
theorem w_u8 (b : UInt8) : IntKind.wrap .i64 (b.toNat : Int) = (b.toNat : Int) := by have := u8_lt b; rw [wrap64 (by omega) (by omega)]
theorem fn50 (s : By) (c : Int) (h0 : 0 <= c) (h1 : c <= 1000000) (hl : s.length <= 1000000000) : Ct prog 50 [vS s, vi c] (vi (sumS s c)) [] := by
 refine CB func50 c50 fun E hE => ?_
 simp [p50]
 refine pw_loop (α := Nat) (fun i => ⟨slots [(0, vS s), (1, vi (sumS (s.take i) c)), (7, vi s.length), (8, vi i)], lk [], 0⟩) (fun i => i <= s.length) (fun i => s.length - i) 0 ?_ ?_ ?_
 . omega
 . refine Weak.mk hE (lk []) _ _ _ ?_ ?_ ?_ ?_ ?_ <;> simp [sumS]
 . intro i hi
   have hz := @wz i (by omega)
   by_cases h : i < s.length
   . obtain ⟨b, hb⟩ := gE h
     have hI : (i : Int) < s.length := by omega
     have hbd := sumS_bd (s.take i) c h0 h1
     have hb8 := u8_lt b
     have hw1 : IntKind.wrap .i64 (sumS (s.take i) c * 31) = sumS (s.take i) c * 31 := wrap64 (by omega) (by omega)
     have hw2 : IntKind.wrap .i64 (sumS (s.take i) c * 31 + (b.toNat : Int)) = sumS (s.take i) c * 31 + (b.toNat : Int) := wrap64 (by omega) (by omega)
     have hrem : (sumS (s.take i) c * 31 + (b.toNat : Int)).tmod 673 = sumS (s.take (i + 1)) c := by
       rw [sumS_take hb, Int.tmod_eq_emod_of_nonneg (by omega)]
     simp [p50l0, hI, hb, w_u8, hw1, hw2, hz, hrem]
     refine ⟨i + 1, by omega, by omega, ?_⟩
     exact WK hE (lk [])
   . have hI : ¬ (i : Int) < s.length := by omega
     have e : s.take i = s := List.take_of_length_le (by omega)
     simp [p50l0, hI]
     apply RZ
     simp [results50, e]
theorem fn46 (s : By) (n : Int) (hs : s.length <= 1000000) (h0 : -10000000000 < n) (h1 : n < 10000000000) : Ct prog 46 [vS s, vi n] (vS (headS s n)) [] := by
 have hl := numS_len n h0 h1
 have c1 := fn61 n (by omega) (by omega)
 change Ct prog _ _ (vS (numS n)) _ at c1
 have b1 : 4 + s.length <= 9223372036854775807 := by omega
 have b2 : s.length + 1 + 1 + 1 + 1 + 1 <= 9223372036854775807 := by omega
 have b3 : s.length + 1 + 1 + 1 + 1 + 1 + (numS n).length <= 9223372036854775807 := by omega
 refine CB func46 c46 fun E hE => ?_
 simp [p46, b1, b2]
 refine CLa c1 ?_
 simp [b3]
 apply RZ
 simp [results46, headS]
theorem numE {x : Etr} (h : entS x = true) : 0 <= x.t /\ x.t <= 1000000 /\ x.a.length <= 6 /\ ∀ n ∈ x.a, -1000000000 <= n /\ n <= 1000000000 := by
 simp only [entS, betw, Bool.and_eq_true, decide_eq_true_eq] at h
 refine ⟨h.1.1.1.1.1, h.1.1.1.1.2, h.1.1.2, fun n hn => ?_⟩
 have := List.all_eq_true.1 h.1.2 n hn
 simpa [argB, betw] using this
abbrev strL (x : By) : List D := [dS x]
theorem hfs : ∀ x : By, (strL x).length = 1 := fun _ => rfl
theorem strsV_eq (l : List By) : strsV l = fcel strL l := by
 induction l with
 | nil => rfl
 | cons a l ih => rw [fcel_cons, <- ih]; rfl
def bodyL (x : Etr) (i : Nat) : List By := [numS x.t, x.w] ++ (x.a.take i).map numS
theorem bodyL_zero (x : Etr) : fcel strL (bodyL x 0) = [vS (numS x.t), vS x.w] := by simp [bodyL, fcel]
theorem bodyL_succ {x : Etr} {i : Nat} {n : Int} (h : x.a[i]? = some n) : bodyL x (i + 1) = bodyL x i ++ [numS n] := by
 simp [bodyL, List.take_add_one, h]
theorem bodyL_len {x : Etr} {i : Nat} (h : i <= x.a.length) : (bodyL x i).length = i + 2 := by
 simp [bodyL]; omega
theorem body_none {x : Etr} (h : x.n = []) : partsS x = bodyL x x.a.length := by simp [partsS, bodyL, h]
theorem body_some {x : Etr} (h : ¬ x.n = []) : partsS x = bodyL x x.a.length ++ [[59], x.n] := by simp [partsS, bodyL, h]
theorem fn99f (k : Nat) (xs : List By) (sep : By) (n : Nat) (hn : xs.length = n) (h0 : 0 < n) (hN : n <= 1000000) (hlen : (Go.Lib.join xs sep).length <= 1000000000) : Cm prog 99 [.ls k 0 n 1, vS sep] (lk [(k, fcel strL xs)]) [] (.ret (vS (Go.Lib.join xs sep))) (lk []) := by
 have h := fn99 k xs sep (fun e => by rw [e] at hn; simp at hn; omega) (by omega) (by omega)
 rw [strsV_eq, hn] at h
 exact h
theorem fn49 (x : Etr) (hx : entS x = true) : Ct prog 49 [entV x] (vS (bodyS x)) [] := by
 obtain ⟨t0, t1, hal, hag⟩ := numE hx
 obtain ⟨hp1, hp2⟩ := entS_parts hx
 have hjl : (bodyS x).length <= 410 := body_len hx
 have c1 := fn61 x.t (by omega) (by omega)
 change Ct prog _ _ (vS (numS x.t)) _ at c1
 refine CB func49 c49 fun E hE => ?_
 simp [p49, inC, Nat.testBit]
 refine CLa c1 ?_
 simp [splice, repl]
 refine pw_loop (α := Nat) (fun i => ⟨slots [(1, .lp 0 0), (3, .ls 1 0 (i + 2) 1), (13, .d (intsD x.a)), (14, vi x.a.length), (15, vi i)], lk [(0, [vi x.t, vS x.w, .d (intsD x.a), vS x.n]), (1, fcel strL (bodyL x i))], 2⟩) (fun i => i <= x.a.length) (fun i => x.a.length - i) 0 ?_ ?_ ?_
 . omega
 . rw [bodyL_zero]
   exact WK hE (lk [(0, 0), (1, 7340032)])
 . intro i hi
   have hsl := fcel_len hfs (bodyL x i)
   have hwh := fcel_whole hfs (bodyL x i)
   rw [bodyL_len hi, Nat.mul_one] at hsl hwh
   by_cases h : i < x.a.length
   . obtain ⟨n, hn⟩ := gE h
     have hz := @wz i (by omega)
     have hI : (i : Int) < x.a.length := by omega
     obtain ⟨g0, g1⟩ := hag n (List.mem_of_getElem? hn)
     have c2 := fn61 n (by omega) (by omega)
     change Ct prog _ _ (vS (numS n)) _ at c2
     have n1 : (i + 2 + 1) * 16 <= 140737488355328 := by omega
     have n2 : i + 2 + 1 <= 9223372036854775807 := by omega
     simp [p49l0, hI, hn]
     refine CLa c2 ?_
     simp [splice, repl, hz, hsl, hwh, n1, n2]
     refine ⟨i + 1, by omega, by omega, ?_⟩
     rw [bodyL_succ hn, fcel_one]
     refine Weak.mk hE (lk [(0, 0), (1, 8388610)]) _ _ _ ?_ ?_ ?_ ?_ ?_ <;> simp [(show i + 2 + 1 = i + 1 + 2 by omega)]
   . have hI : ¬ (i : Int) < x.a.length := by omega
     have e : i = x.a.length := by omega
     subst e
     by_cases hnn : x.n = []
     . have c3 := fn99f 1 (bodyL x x.a.length) [32] (x.a.length + 2) (bodyL_len hi) (by omega) (by omega) (by rw [<- body_none hnn]; show (bodyS x).length <= _; omega)
       change Cm prog _ _ _ _ (.ret (vS (Go.Lib.join (bodyL x x.a.length) [32]))) _ at c3
       have hb : Go.Lib.join (bodyL x x.a.length) [32] = bodyS x := by rw [<- body_none hnn]; rfl
       rw [hb] at c3
       simp [p49l0, hI, hnn]
       refine CRs c3 (by simp) ?_
       simp
       apply RZ
       simp [results49]
     . have n1 : (x.a.length + 2 + 2) * 16 <= 140737488355328 := by omega
       have n2 : x.a.length + 2 + 2 <= 9223372036854775807 := by omega
       have ef : fcel strL (bodyL x x.a.length) ++ [vS [59], vS x.n] = fcel strL (partsS x) := by rw [body_some hnn, <- fcel_app]; rfl
       have c3 := fn99f 8388610 (partsS x) [32] (x.a.length + 2 + 2) (by rw [body_some hnn, List.length_append, bodyL_len hi]; rfl) (by omega) (by omega) (by show (bodyS x).length <= _; omega)
       change Cm prog _ _ _ _ (.ret (vS (bodyS x))) _ at c3
       rw [<- ef] at c3
       simp [p49l0, hI, hnn, splice, repl, hsl, hwh, n1, n2]
       refine CRs c3 (by simp) ?_
       simp
       apply RZ
       simp [results49]
theorem wrapu8 {x : Int} (h1 : 0 <= x) (h2 : x < 256) : IntKind.wrap .u8 x = x := by
 have : x % 256 = x := by omega
 simpa [IntKind.wrap, IntKind.bits, IntKind.signed] using this
theorem fn128 (b : By) (c : Int) (h0 : 0 <= c) (h1 : c < 673) (hl : b.length <= 1000000) : Cm prog 128 [vS b, .lp 0 0] (lk [(0, [vi c])]) [0] (.ret (vS (lineS b (sumS b c)))) (lk [(0, [vi (sumS b c)])]) := by
 have c1 := fn50 b c h0 (by omega) (by omega)
 obtain ⟨s0, s1⟩ := sumS_lt b c h0 h1
 generalize hs : sumS b c = s at *
 have q1 : s.tdiv 26 = s / 26 := Int.tdiv_eq_ediv_of_nonneg s0
 have q2 : s.tmod 26 = s % 26 := Int.tmod_eq_emod_of_nonneg s0
 have d1 : 0 <= s / 26 /\ s / 26 < 26 := by omega
 have d2 : 0 <= s % 26 /\ s % 26 < 26 := by omega
 have w1 : IntKind.wrap .i64 (s / 26) = s / 26 := wrap64 (by omega) (by omega)
 have w2 : IntKind.wrap .u8 (s / 26) = s / 26 := wrapu8 (by omega) (by omega)
 have w3 : IntKind.wrap .u8 (97 + s / 26) = 97 + s / 26 := wrapu8 (by omega) (by omega)
 have w4 : IntKind.wrap .u8 (s % 26) = s % 26 := wrapu8 (by omega) (by omega)
 have w5 : IntKind.wrap .u8 (97 + s % 26) = 97 + s % 26 := wrapu8 (by omega) (by omega)
 have k1 : (0 : Int) <= 97 + s / 26 /\ 97 + s / 26 < 256 := by omega
 have k2 : (0 : Int) <= 97 + s % 26 /\ 97 + s % 26 < 256 := by omega
 have b1 : b.length + 1 <= 9223372036854775807 := by omega
 have b2 : b.length + 1 + 1 + 1 <= 9223372036854775807 := by omega
 have b3 : b.length + 1 + 1 + 1 + 1 <= 9223372036854775807 := by omega
 refine CM 1 func128 c128 fun E hs hE => ?_
 simp [p128]
 refine CLa c1 ?_
 simp [splice, repl, q1, q2, w1, w2, w3, w4, w5, k1, k2, b1, b2, b3]
 refine RetOk.by (lk [(0, 0)]) ?_
 simp [results128, lineS, letS]
theorem fn75 : Ct prog 75 [] (.cl 128 [.lp 0 0]) [(0, [vi 0])] := by
 refine CB func75 c75 fun E hE => ?_
 simp [p75, splice]
 refine RetOk.by (lk [(0, 1048576)]) ?_
 simp [results75]
theorem bld_at1 (a b : Nat) (hab : a ≠ b) (s : By) (h0 : 0 < s.length) (hlen : s.length <= 1000000000) : Cm prog 76 [.yl a, vS s] (lk [(a, [.d (.lit (.slice none 0 0)), vi 0])]) [a] (.ret (.tup [vi s.length, .d (.lit .nilIface)])) (lk [(a, [.yl b, vi s.length]), (b, [vS s, vb false])]) := by
 have := (fn76a s h0 hlen).rename (sgB a b) 2 (sgB_inj hab) (by simp [idsLt]) (by simp [idsLt, bldL]) (by simp)
 simpa [renL, bldL, renR, renC, ren1, ren0, ren2, ren, sgB] using this
theorem bld_at2 (a b : Nat) (hab : a ≠ b) (t s : By) (h0 : 0 < s.length) (hlen : t.length + s.length <= 1000000000) : Cm prog 76 [.yl a, vS s] (lk [(a, [.yl b, vi t.length]), (b, [vS t, vb false])]) [a] (.ret (.tup [vi s.length, .d (.lit .nilIface)])) (lk [(a, [.yl b, vi (t ++ s).length]), (b, [vS (t ++ s), vb false])]) := by
 have := (fn76b t s h0 hlen).rename (sgB a b) 2 (sgB_inj hab) (by simp [idsLt, bldL]) (by simp [idsLt, bldL]) (by simp)
 simpa [renL, bldL, renR, renC, ren1, ren0, ren2, ren, sgB] using this
theorem bld_text (a b : Nat) (hab : a ≠ b) (t : By) (h0 : 0 < t.length) : Cm prog 77 [.yl a] (lk [(a, [.yl b, vi t.length]), (b, [vS t, vb false])]) [] (.ret (vS t)) (lk []) := by
 have := (fn77 t h0).rename (sgB a b) 2 (sgB_inj hab) (by simp [idsLt, bldL]) (by simp [idsLt]) (by simp)
 simpa [renL, bldL, renR, renC, ren1, ren0, ren2, ren, sgB] using this
theorem seal_at (k : Nat) (b : By) (c : Int) (h0 : 0 <= c) (h1 : c < 673) (hl : b.length <= 1000000) : Cm prog 128 [vS b, .lp k 0] (lk [(k, [vi c])]) [k] (.ret (vS (lineS b (sumS b c)))) (lk [(k, [vi (sumS b c)])]) := by
 have := (fn128 b c h0 h1 hl).rename (fun _ => k) 1 (by omega) (by simp) (by simp) (by simp)
 simpa [renL, renR, renC, ren1, ren0, ren2, ren] using this
theorem okLg_all {l : Lg} (h : okLg l = true) : shipS l.s = true /\ l.es.length <= 200 /\ ordS 0 l.es = true := by
 simp only [okLg, Bool.and_eq_true, decide_eq_true_eq] at h
 exact ⟨h.1.1, h.1.2, h.2⟩
theorem ship_len {s : By} (h : shipS s = true) : 1 <= s.length /\ s.length <= 8 := by
 simp only [shipS, madeS, betw, Bool.and_eq_true, decide_eq_true_eq] at h
 omega
theorem head_len (s : By) (n : Int) : (headS s n).length = s.length + 5 + (numS n).length := by simp [headS]; omega
def chK (l : Lg) (i : Nat) : Int := chkS (sumS (headS l.s l.es.length) 0) (l.es.take i)
def txK (l : Lg) (i : Nat) : By := lineS (headS l.s l.es.length) (sumS (headS l.s l.es.length) 0) ++ linesS (sumS (headS l.s l.es.length) 0) (l.es.take i)
theorem txK_zero (l : Lg) : txK l 0 = lineS (headS l.s l.es.length) (sumS (headS l.s l.es.length) 0) := by simp [txK, linesS]
theorem chK_zero (l : Lg) : chK l 0 = sumS (headS l.s l.es.length) 0 := by simp [chK, chkS]
theorem txK_all {l : Lg} {i : Nat} (h : l.es.length <= i) : txK l i = textS l := by unfold txK textS; rw [List.take_of_length_le h]
theorem txK_len {l : Lg} (h : okLg l = true) (i : Nat) : 1 <= (txK l i).length /\ (txK l i).length <= 100000 := by
 obtain ⟨h1, h2, h3⟩ := okLg_all h
 have q1 := ship_len h1
 have q2 := numS_len l.es.length (by omega) (by omega)
 have q3 := head_len l.s l.es.length
 have q4 := lines_len (l.es.take i) (sumS (headS l.s l.es.length) 0) fun x hx => ordS_ents h3 x (List.mem_of_mem_take hx)
 have q5 : (l.es.take i).length <= 200 := by simp; omega
 unfold txK
 rw [List.length_append, line_len]
 omega
theorem fn27ok (l : Lg) (hs : SizedL l) (h : okLg l = true) : Ct prog 27 [logV l] (.tup [vS (textS l), vi 0]) [] := by
 have c1 := fn28 l hs
 rw [h] at c1
 obtain ⟨h1, h2, h3⟩ := okLg_all h
 have q1 := ship_len h1
 have q2 := numS_len l.es.length (by omega) (by omega)
 have q3 := head_len l.s l.es.length
 have c2 := fn46 l.s l.es.length (by omega) (by omega) (by omega)
 refine CB func27 c27 fun E hE => ?_
 simp [p27]
 refine CLa c1 ?_
 simp
 refine CLa fn75 ?_
 simp
 refine CLa c2 ?_
 simp
 have hhl : (headS l.s l.es.length).length <= 30 := by omega
 have hs0 := sumS_lt (headS l.s l.es.length) 0 (by omega) (by omega)
 have hT := txK_len h
 refine CRs (seal_at 8388608 (headS l.s l.es.length) 0 (by omega) (by omega) (by omega)) (by simp) ?_
 simp
 refine CRs (bld_at1 10485760 1 (by omega) (lineS (headS l.s l.es.length) (sumS (headS l.s l.es.length) 0)) (by rw [line_len]; omega) (by rw [line_len]; omega)) (by simp) ?_
 simp
 refine pw_loop (α := Nat) (fun i => ⟨slots [(5, .cl 128 [.lp 0 0]), (6, .yl 1), (25, .d (entsD l.es)), (26, vi l.es.length), (27, vi i)], lk [(0, [vi (chK l i)]), (1, [.yl 2, vi (txK l i).length]), (2, [vS (txK l i), vb false])], 3⟩) (fun i => i <= l.es.length) (fun i => l.es.length - i) 0 ?_ ?_ ?_
 . omega
 . rw [chK_zero, txK_zero]
   exact WK hE (lk [(0, 8388608), (1, 10485760), (2, 19922945)])
 . intro i hi
   have hT2 := hT i
   by_cases hi2 : i < l.es.length
   . obtain ⟨x, hx⟩ := gE hi2
     have hz := @wz i (by omega)
     have hI : (i : Int) < l.es.length := by omega
     have hxe := ordS_ents h3 x (List.mem_of_getElem? hx)
     have hbl := body_len hxe
     have hc := chkS_lt (l.es.take i) _ hs0.1 hs0.2
     have e1 : sumS (bodyS x) (chK l i) = chK l (i + 1) := by unfold chK; rw [chkS_take hx]
     have e2 : txK l i ++ lineS (bodyS x) (chK l (i + 1)) = txK l (i + 1) := by
       rw [<- e1]
       unfold txK chK
       rw [linesS_take hx, List.append_assoc]
     have hT3 := hT (i + 1)
     have d1 := seal_at 0 (bodyS x) (chK l i) hc.1 hc.2 (by omega)
     rw [e1] at d1
     have d2 := bld_at2 1 2 (by omega) (txK l i) (lineS (bodyS x) (chK l (i + 1))) (by rw [line_len]; omega) (by rw [line_len]; omega)
     rw [e2] at d2
     simp [p27l0, hI, hx, splice]
     refine CLa (fn49 x hxe) ?_
     simp
     refine CRs d1 (by simp) ?_
     simp
     refine CRs d2 (by simp) ?_
     simp [hz]
     refine ⟨i + 1, by omega, by omega, ?_⟩
     exact WK hE (lk [(0, 0), (1, 1), (2, 9437189)])
   . have hI : ¬ (i : Int) < l.es.length := by omega
     have d1 := bld_text 1 2 (by omega) (txK l i) (by omega)
     rw [txK_all (show l.es.length <= i by omega)] at d1 ⊢
     simp [p27l0, hI]
     refine CRs d1 (by simp) ?_
     simp
     apply RZ
     simp [results27]
end Go.Proofs.Tryz
namespace Go.Log
def linesOf : By -> List By
 | [] => []
 | b :: r => if b = 10 then [10] :: linesOf r else match linesOf r with
   | [] => [[b]]
   | l :: ls => (b :: l) :: ls
def firL : By -> By × By
 | [] => ([], [])
 | b :: r => if b = 10 then ([10], r) else (b :: (firL r).1, (firL r).2)
theorem firL_app : ∀ s : By, (firL s).1 ++ (firL s).2 = s
 | [] => rfl
 | b :: r => by
   unfold firL
   split
   . rename_i h; subst h; rfl
   . simp [firL_app r]
theorem firL_len (s : By) : (firL s).1.length + (firL s).2.length = s.length := by
 have := congrArg List.length (firL_app s)
 simpa using this
theorem firL_pos {s : By} (h : s ≠ []) : 0 < (firL s).1.length := by
 cases s with
 | nil => exact absurd rfl h
 | cons b r => unfold firL; split <;> simp
theorem linesOf_cons (b : UInt8) (r : By) : linesOf (b :: r) = if b = 10 then [10] :: linesOf r else match linesOf r with
   | [] => [[b]]
   | l :: ls => (b :: l) :: ls := by rw [linesOf]
theorem firL_cons (b : UInt8) (r : By) : firL (b :: r) = if b = 10 then ([10], r) else (b :: (firL r).1, (firL r).2) := by rw [firL]
theorem linesOf_fir : ∀ {s : By}, s ≠ [] -> linesOf s = (firL s).1 :: linesOf (firL s).2
 | [], h => absurd rfl h
 | b :: r, _ => by
   rw [linesOf_cons, firL_cons]
   by_cases hb : b = 10
   . rw [if_pos hb, if_pos hb]
   . rw [if_neg hb, if_neg hb]
     cases r with
     | nil => rfl
     | cons c t =>
       rw [linesOf_fir (s := c :: t) (by simp)]
def restL : Nat -> By -> By
 | 0, s => s
 | n + 1, s => restL n (firL s).2
theorem restL_nil : ∀ n, restL n [] = []
 | 0 => rfl
 | n + 1 => by unfold restL; exact restL_nil n
theorem restL_succ : ∀ (n : Nat) (s : By), restL (n + 1) s = (firL (restL n s)).2
 | 0, s => rfl
 | n + 1, s => by
   show restL (n + 1) (firL s).2 = _
   rw [restL_succ n (firL s).2]
   rfl
theorem lines_at : ∀ {n : Nat} {s : By}, restL n s ≠ [] -> (linesOf s)[n]? = some (firL (restL n s)).1
 | 0, s, h => by
   have h : s ≠ [] := h
   rw [linesOf_fir h]; rfl
 | n + 1, s, h => by
   have hs : s ≠ [] := by
     intro e
     subst e
     exact h (restL_nil _)
   rw [linesOf_fir hs, List.getElem?_cons_succ]
   exact lines_at (n := n) (s := (firL s).2) h
theorem lines_end : ∀ {n : Nat} {s : By}, restL n s = [] ↔ (linesOf s).length <= n
 | 0, s => by
   constructor
   . intro h
     have h : s = [] := h
     subst h; simp [linesOf]
   . intro h
     have h0 : linesOf s = [] := List.length_eq_zero_iff.1 (by omega)
     by_cases hs : s = []
     . exact hs
     . rw [linesOf_fir hs] at h0; cases h0
 | n + 1, s => by
   by_cases hs : s = []
   . subst hs
     simp [restL_nil, linesOf]
   . rw [linesOf_fir hs, List.length_cons]
     show restL n (firL s).2 = [] ↔ _
     rw [lines_end (n := n) (s := (firL s).2)]
     omega
theorem restL_len (n : Nat) (s : By) : (restL n s).length <= s.length := by
 induction n generalizing s with
 | zero => exact Nat.le_refl _
 | succ n ih =>
   have h1 := ih (firL s).2
   have h2 := firL_len s
   show (restL n (firL s).2).length <= _
   omega
theorem lines_le (s : By) : (linesOf s).length <= s.length := by
 induction s with
 | nil => simp [linesOf]
 | cons b r ih =>
   unfold linesOf
   split
   . simp; omega
   . split
     . simp
     . rename_i l ls h; rw [h] at ih; simp at ih ⊢; omega
def chopS (l : By) : By := if l.getLast? = some 10 then l.dropLast else l
def openS (l : By) : Option (By × Int) := match l.drop (l.length - 3) with
 | [a, b, c] => if a = 32 && loB b && loB c then some (l.take (l.length - 3), 26 * ((b.toNat : Int) - 97) + ((c.toNat : Int) - 97)) else none
 | _ => none
def damS : Int -> Nat -> List By -> List Int
 | _, _, [] => []
 | bf, i, l :: r => match openS (chopS l) with
   | none => (i : Int) :: damS 0 (i + 1) r
   | some (b, c) => if sumS b bf = c then damS c (i + 1) r else (i : Int) :: damS c (i + 1) r
def dmStep (i : Nat) (st : List Int × Int) (l : By) : List Int × Int := match openS (chopS l) with
 | none => (st.1 ++ [(i : Int)], 0)
 | some (b, c) => (if sumS b st.2 = c then st.1 else st.1 ++ [(i : Int)], c)
def dmAt (ls : List By) : Nat -> List Int × Int
 | 0 => ([], 0)
 | i + 1 => match ls[i]? with
   | some l => dmStep i (dmAt ls i) l
   | none => dmAt ls i
theorem openS_bd {t : By} {b : By} {c : Int} (h : openS t = some (b, c)) : 0 <= c /\ c <= 675 /\ b.length <= t.length := by
 unfold openS at h
 split at h
 . rename_i a x y _
   split at h
   . rename_i hc
     cases h
     simp only [loB, Bool.and_eq_true, decide_eq_true_eq] at hc
     refine ⟨by omega, by omega, by simp⟩
   . cases h
 . cases h
theorem dmAt_bd (ls : List By) : ∀ i, 0 <= (dmAt ls i).2 /\ (dmAt ls i).2 <= 675 /\ (dmAt ls i).1.length <= i
 | 0 => by simp [dmAt]
 | i + 1 => by
   have ih := dmAt_bd ls i
   unfold dmAt
   split
   . unfold dmStep
     split
     . simp; omega
     . rename_i h
       have := openS_bd h
       refine ⟨this.1, this.2.1, ?_⟩
       simp only
       split
       . omega
       . simp; omega
   . omega
theorem dmAt_succ {ls : List By} {i : Nat} {l : By} (h : ls[i]? = some l) : dmAt ls (i + 1) = dmStep i (dmAt ls i) l := by
 rw [dmAt, h]
theorem lines_mem_len : ∀ {s l : By}, l ∈ linesOf s -> l.length <= s.length
 | [], _, h => by simp [linesOf] at h
 | b :: r, l, h => by
   rw [linesOf_fir (by simp)] at h
   have h1 := firL_len (b :: r)
   have h2 := firL_pos (s := b :: r) (by simp)
   rcases List.mem_cons.1 h with rfl | h
   . omega
   . have := lines_mem_len (s := (firL (b :: r)).2) h
     omega
 termination_by s => s.length
 decreasing_by
   have _ := firL_len (b :: r)
   have _ := firL_pos (s := b :: r) (by simp)
   omega
end Go.Log
namespace Go.Proofs.Tryz
open Go.Psl
open Go.Log
open Go.RowKit
theorem fn85 (s : By) (c : UInt8) : Ct prog 85 [vS s, vu c] (vi (Go.Lib.indexByte s c)) [] :=
 Cm.ofLit (vs0 := [.string (bs s), .int .u8 c.toNat]) (v := .int .i64 (Go.Lib.indexByte s c)) ⟨_, func85, by kernel_rfl, by decide⟩ rfl fun W hW => by
   have h := Go.Proofs.Any.strings_IndexByte idxL (bs s) c.toNat W
   rw [bs_toList, show ((c.toNat : Int)).toNat.toUInt8 = c by simp] at h
   exact h.mono fun e W' ⟨he, hw⟩ => ⟨he, by rw [hw]; exact Below.refl _ _⟩
theorem idx_none : ∀ {s : By}, Go.Lib.indexByte s 10 = -1 -> (firL s).1 = s
 | [], _ => rfl
 | b :: r, h => by
   unfold Go.Lib.indexByte at h
   rw [firL_cons]
   by_cases hb : b = 10
   . subst hb; simp at h
   . rw [if_neg hb]
     have hb' : (b == (10 : UInt8)) = false := by simpa using hb
     rw [hb'] at h
     simp only [Bool.false_eq_true, if_false] at h
     by_cases h1 : Go.Lib.indexByte r 10 = -1
     . simp [idx_none h1]
     . have := Go.Lib.indexByte_ge r 10
       have h2 : (Go.Lib.indexByte r 10 == -1) = false := by simpa using h1
       rw [h2] at h
       simp only [Bool.false_eq_true, if_false] at h
       omega
theorem idx_some : ∀ {s : By}, ¬ Go.Lib.indexByte s 10 = -1 -> ((firL s).1.length : Int) = Go.Lib.indexByte s 10 + 1
 | [], h => absurd rfl h
 | b :: r, h => by
   unfold Go.Lib.indexByte at h ⊢
   rw [firL_cons]
   by_cases hb : b = 10
   . subst hb; simp
   . rw [if_neg hb]
     have hb' : (b == (10 : UInt8)) = false := by simpa using hb
     rw [hb'] at h ⊢
     simp only [Bool.false_eq_true, if_false] at h ⊢
     by_cases h1 : Go.Lib.indexByte r 10 = -1
     . rw [h1] at h; simp at h
     . have h2 : (Go.Lib.indexByte r 10 == -1) = false := by simpa using h1
       rw [h2] at h ⊢
       simp only [Bool.false_eq_true, if_false] at h ⊢
       have := idx_some h1
       simp only [List.length_cons]
       omega
theorem firL_take (s : By) : s.take (firL s).1.length = (firL s).1 := by
 have h := firL_app s
 generalize (firL s).1 = a at h ⊢
 generalize (firL s).2 = b at h ⊢
 subst h
 simp
theorem firL_drop (s : By) : s.drop (firL s).1.length = (firL s).2 := by
 have h := firL_app s
 generalize (firL s).1 = a at h ⊢
 generalize (firL s).2 = b at h ⊢
 subst h
 simp
theorem fn88 (s : By) (c : UInt8) (hl : s.length <= 1000000000) : Ct prog 88 [vS s, vS [c]] (vb (decide (s.getLast? = some c))) [] := by
 by_cases h : 1 <= s.length
 . have h' : (1 : Int) <= s.length := by omega
   have w : IntKind.wrap .i64 ((s.length : Int) - 1) = ((s.length - 1 : Nat) : Int) := by rw [wrap64 (by omega) (by omega)]; omega
   have i1 : ((s.length - 1 : Nat) : Int) <= s.length := by omega
   have i2 : s.length - 1 <= s.length := by omega
   have e : s.drop (s.length - 1) = [s[s.length - 1]'(by omega)] := by
     rw [List.drop_eq_getElem_cons (by omega)]
     simp [show s.length - 1 + 1 = s.length by omega]
   have e2 : s.getLast? = some (s[s.length - 1]'(by omega)) := by rw [List.getLast?_eq_getElem?, List.getElem?_eq_getElem (by omega)]
   refine CB func88 c88 fun E hE => ?_
   simp [p88, h', w]
   apply RZ
   simp [results88, e, e2]
 . have h' : ¬ (1 : Int) <= s.length := by omega
   have hs : s = [] := List.length_eq_zero_iff.1 (by omega)
   subst hs
   refine CB func88 c88 fun E hE => ?_
   simp [p88]
   apply RZ
   simp [results88]
theorem fn41 (s : By) (c : UInt8) (hl : s.length <= 1000000000) : Ct prog 41 [vS s, vS [c]] (vb (decide (s.getLast? = some c))) [] := by
 have c1 := fn88 s c hl
 refine CB func41 c41 fun E hE => ?_
 simp [p41]
 refine CLa c1 ?_
 simp
 apply RZ
 simp [results41]
theorem fn135 (s : By) (hl : s.length <= 1000000000) : Ct prog 135 [vS s, vS [10]] (vS (chopS s)) [] := by
 have c1 := fn88 s 10 hl
 by_cases h : s.getLast? = some 10
 . have h0 : 1 <= s.length := by
     cases s with
     | nil => cases h
     | cons a r => simp
   have w : IntKind.wrap .i64 ((s.length : Int) - 1) = ((s.length - 1 : Nat) : Int) := by rw [wrap64 (by omega) (by omega)]; omega
   have i1 : ((s.length - 1 : Nat) : Int) <= s.length := by omega
   have i2 : s.length - 1 <= s.length := by omega
   rw [decide_eq_true h] at c1
   refine CB func135 c135 fun E hE => ?_
   simp [p135]
   refine CLa c1 ?_
   simp [w, i1]
   apply RZ
   simp [results135, chopS, h, List.dropLast_eq_take]
 . rw [decide_eq_false h] at c1
   refine CB func135 c135 fun E hE => ?_
   simp [p135]
   refine CLa c1 ?_
   simp
   apply RZ
   simp [results135, chopS, h]
theorem fn86 (s : By) (hl : s.length <= 1000000000) : Ct prog 86 [vS s, vS [10]] (vS (chopS s)) [] := by
 have c1 := fn135 s hl
 refine CB func86 c86 fun E hE => ?_
 simp [p86]
 refine CLa c1 ?_
 simp
 apply RZ
 simp [results86]
theorem chop_len (s : By) : (chopS s).length <= s.length := by
 unfold chopS
 split
 . simp
 . exact Nat.le_refl _
theorem fn87 (b : UInt8) : Ct prog 87 [vu b] (vb (loB b)) [] := by
 by_cases h1 : (97 : Int) <= b.toNat
 . by_cases h2 : (b.toNat : Int) <= 122
   . refine CB func87 c87 fun E hE => ?_
     simp [p87, h1, h2]
     apply RZ
     simp [results87, loB, h1, h2]
   . refine CB func87 c87 fun E hE => ?_
     simp [p87, h1, h2]
     apply RZ
     simp [results87, loB, h1, h2]
 . refine CB func87 c87 fun E hE => ?_
   simp [p87, h1]
   apply RZ
   simp [results87, loB, h1]
abbrev openV (o : Option (By × Int)) : V := .tup [vS (o.elim [] Prod.fst), vi (o.elim 0 Prod.snd), vb o.isSome]
theorem three {t : By} (h : 3 <= t.length) : ∃ u a b c, t = u ++ [a, b, c] /\ t.length = u.length + 3 := by
 have hl : (t.drop (t.length - 3)).length = 3 := by simp; omega
 match hd : t.drop (t.length - 3), hl with
 | [a, b, c], _ => exact ⟨t.take (t.length - 3), a, b, c, by rw [<- hd, List.take_append_drop], by simp; omega⟩
theorem openS_three (u : By) (a b c : UInt8) : openS (u ++ [a, b, c]) = if a = 32 && loB b && loB c then some (u, 26 * ((b.toNat : Int) - 97) + ((c.toNat : Int) - 97)) else none := by
 unfold openS
 have h1 : (u ++ [a, b, c]).length - 3 = u.length := by simp
 rw [h1]
 simp
theorem openS_short {t : By} (h : ¬ 3 <= t.length) : openS t = none := by
 unfold openS
 split
 . rename_i a b c hd
   have := congrArg List.length hd
   simp at this
   omega
 . rfl
theorem fn40 (l : By) (hl : l.length <= 1000000000) : Ct prog 40 [vS l] (openV (openS (chopS l))) [] := by
 have c1 := fn86 l hl
 have hc := chop_len l
 generalize chopS l = t at *
 by_cases h3 : 3 <= t.length
 case neg =>
   have w : IntKind.wrap .i64 ((t.length : Int) - 3) = (t.length : Int) - 3 := wrap64 (by omega) (by omega)
   have i0 : (t.length : Int) - 3 < 0 := by omega
   rw [openS_short h3]
   refine CB func40 c40 fun E hE => ?_
   simp [p40]
   refine CLa c1 ?_
   simp [w, i0]
   apply RZ
   simp [results40, openV]
 obtain ⟨u, a, b, c, rfl, hn⟩ := three h3
 have w0 : IntKind.wrap .i64 (((u ++ [a, b, c]).length : Int) - 3) = (u.length : Int) := by rw [wrap64 (by omega) (by omega)]; omega
 have w1 : IntKind.wrap .i64 ((u.length : Int) + 1) = ((u.length + 1 : Nat) : Int) := by rw [wrap64 (by omega) (by omega)]; omega
 have w2 : IntKind.wrap .i64 ((u.length : Int) + 2) = ((u.length + 2 : Nat) : Int) := by rw [wrap64 (by omega) (by omega)]; omega
 have g0 : (u ++ [a, b, c])[u.length]? = some a := by simp
 have g1 : (u ++ [a, b, c])[u.length + 1]? = some b := by simp
 have g2 : (u ++ [a, b, c])[u.length + 2]? = some c := by simp
 have l0 : (u.length : Int) < (u ++ [a, b, c]).length := by omega
 have l1 : ((u.length + 1 : Nat) : Int) < (u ++ [a, b, c]).length := by omega
 have l2 : ((u.length + 2 : Nat) : Int) < (u ++ [a, b, c]).length := by omega
 have n0 : ¬ (u.length : Int) < 0 := by omega
 have tk : (u ++ [a, b, c]).take u.length = u := by simp
 rw [openS_three]
 have d1 := fn87 b
 have d2 := fn87 c
 have hle : u.length <= (u ++ [a, b, c]).length := by omega
 have hle' : (u.length : Int) <= (u ++ [a, b, c]).length := by omega
 generalize (u ++ [a, b, c]) = t at *
 generalize hk1 : u.length + 1 = k1 at *
 generalize hk2 : u.length + 2 = k2 at *
 have hu : u.length <= 1000000000 := by omega
 generalize hk0 : u.length = k0 at *
 by_cases ha : a = 32
 case neg =>
   have ha' : ¬ ((a.toNat : Int) = 32) := fun e => ha (UInt8.toNat_inj.1 (by simpa using (by omega : a.toNat = 32)))
   refine CB func40 c40 fun E hE => ?_
   simp [p40]
   refine CLa c1 ?_
   simp [w0, n0, g0, ha']
   apply RZ
   simp [results40, openV, ha]
 subst ha
 by_cases hb : loB b = true
 case neg =>
   simp only [Bool.not_eq_true] at hb
   rw [hb] at d1
   refine CB func40 c40 fun E hE => ?_
   simp [p40]
   refine CLa c1 ?_
   simp [w0, n0, g0, w1, g1]
   refine CLa d1 ?_
   simp
   apply RZ
   simp [results40, openV, hb]
 rw [hb] at d1
 by_cases hcc : loB c = true
 case neg =>
   simp only [Bool.not_eq_true] at hcc
   rw [hcc] at d2
   refine CB func40 c40 fun E hE => ?_
   simp [p40]
   refine CLa c1 ?_
   simp [w0, n0, g0, w1, g1]
   refine CLa d1 ?_
   simp [w2, g2]
   refine CLa d2 ?_
   simp
   apply RZ
   simp [results40, openV, hcc]
 rw [hcc] at d2
 have hb2 := hb
 have hc2 := hcc
 simp only [loB, Bool.and_eq_true, decide_eq_true_eq] at hb2 hc2
 have v1 : IntKind.wrap .u8 ((b.toNat : Int) - 97) = (b.toNat : Int) - 97 := wrapu8 (by omega) (by omega)
 have v2 : IntKind.wrap .u8 ((c.toNat : Int) - 97) = (c.toNat : Int) - 97 := wrapu8 (by omega) (by omega)
 have v3 : IntKind.wrap .i64 ((b.toNat : Int) - 97) = (b.toNat : Int) - 97 := wrap64 (by omega) (by omega)
 have v4 : IntKind.wrap .i64 ((c.toNat : Int) - 97) = (c.toNat : Int) - 97 := wrap64 (by omega) (by omega)
 have v5 : IntKind.wrap .i64 (26 * ((b.toNat : Int) - 97)) = 26 * ((b.toNat : Int) - 97) := wrap64 (by omega) (by omega)
 have v6 : IntKind.wrap .i64 (26 * ((b.toNat : Int) - 97) + ((c.toNat : Int) - 97)) = 26 * ((b.toNat : Int) - 97) + ((c.toNat : Int) - 97) := wrap64 (by omega) (by omega)
 refine CB func40 c40 fun E hE => ?_
 simp [p40]
 refine CLa c1 ?_
 simp [w0, n0, g0, w1, g1]
 refine CLa d1 ?_
 simp [w2, g2]
 refine CLa d2 ?_
 simp [w1, w2, g1, g2, hle', v1, v2, v3, v4, v5, v6]
 apply RZ
 simp [results40, openV, hb, hcc, tk]
theorem fn38 (s : By) : Ct prog 38 [vS s] (.cl 84 [.lp 0 0]) [(0, [vS s])] := by
 refine CB func38 c38 fun E hE => ?_
 simp [p38]
 refine RetOk.by (lk [(0, 0)]) ?_
 simp [results38]
theorem sg_in {ks : List Nat} {b i : Nat} (h : i ∈ ks) : sg ks b i = i := by simp [sg, h]
theorem lines_run (s : By) (hl : s.length <= 1000000) (KS : List Nat) (XS : Nat -> List Nat) (k a : Nat) (L : Nat -> By -> List (Nat × List V)) (hk : k ∈ KS) (ha : a ∈ KS) (hN : ∀ i ∈ KS, i < 1000000000) (hX : ∀ i, ∀ x ∈ XS i, x < 1048576) (hL : ∀ i r, KeepX KS (XS i) (L i r))
   (hrec : ∀ i r, ∃ fr nt ps pa pb jmp, lk (L i r) k = some [.lr fr nt ps pa pb jmp] /\ ps.length = 2) (hbox : ∀ i r, lk (L i r) a = some [vS r]) (hset : ∀ (i : Nat) (r r' : By), ∀ p ∈ L i r', (p.1 = a /\ p.2 = [vS r']) \/ (p.1 ≠ a /\ p ∈ L i r))
   (hY : ∀ (i : Nat) (l : By), (linesOf s)[i]? = some l -> Ym prog k [vi i, vS l] (lk (L i (restL i s))) KS (.ret (vb true)) (lk (L (i + 1) (restL i s)))) :
   Cm prog 84 [.yl k, .lp a 0] (lk (L 0 s)) KS (.ret (.tup [])) (lk (L (linesOf s).length [])) := by
 have hNX : ∀ i, ∀ x ∈ KS ++ XS i, x < 1000000000 := fun i x hx => by
   rcases List.mem_append.1 hx with h | h
   . exact hN x h
   . have := hX i x h; omega
 refine Cm.by gok eok mixed 1000000000 func84 c84 rfl (by simp [ntmps84]) (by simp; exact ⟨hN k hk, hN a ha⟩) (HpIds.at ((hL 0 s).ids (hNX 0))) hN ⟨by simp, (hL _ _).res⟩ fun E hs hE => ?_
 have haN := hN a ha
 have na : ∀ x, 1000000000 <= x -> ¬ a = x := fun x _ => by omega
 have la : ∀ x, 1000000000 <= x -> a < x := fun x _ => by omega
 have rk : ∀ i b, rx KS (XS i) b k = some k := fun i b => by simp [rx, hk]
 have ra : ∀ i b, rx KS (XS i) b a = some a := fun i b => by simp [rx, ha]
 have hll := lines_le s
 simp [p84]
 refine pw_loop (α := Nat) (fun i => ⟨slots [(0, .yl k), (1, .lp a 0), (3, vi i)], lk (L i (restL i s)), 1000000000⟩) (fun i => i <= (linesOf s).length) (fun i => (linesOf s).length - i) 0 ?_ ?_ ?_
 . omega
 . refine Weak.sameX hs (hL 0 s) rfl (hNX 0) _ ?_ ?_
   . simp [rid, hk, ha]
   . simp [hN k hk, hN a ha]
 . intro i hi
   have hb := hbox i (restL i s)
   by_cases h0 : restL i s = []
   . have e : i = (linesOf s).length := by have := lines_end.1 h0; omega
     rw [h0] at hb ⊢
     simp [p84l0, hb]
     rw [e]
     exact RetM.sameX rfl (hL _ _) rfl
   . have hil : i < (linesOf s).length := by
       rcases Nat.lt_or_ge i (linesOf s).length with h | h
       . exact h
       . exact absurd (lines_end.2 h) h0
     have hat := lines_at h0
     have hY' := hY i _ hat
     have hrs := restL_succ i s
     have hrl := restL_len i s
     generalize hr : restL i s = r at *
     have hz := @wz i (by omega)
     have c1 := fn85 r 10
     have hfl := firL_len r
     have hfp := firL_pos h0
     have htk := firL_take r
     have hdr := firL_drop r
     obtain ⟨fr, nt, ps, pa, pb, jmp, hr1, hr2⟩ := hrec i r
     have i1 : ((firL r).1.length : Int) <= r.length := by omega
     have i2 : (firL r).1.length <= r.length := by omega
     by_cases hx : Go.Lib.indexByte r 10 = -1
     . have e := idx_none hx
       rw [hx] at c1
       have w0 : IntKind.wrap .i64 (-1 + 1) = 0 := by decide
       rw [e] at hY'
       have e2 : (firL r).2 = [] := List.length_eq_zero_iff.1 (by have := congrArg List.length e; omega)
       simp [p84l0, hb, h0]
       refine CLa c1 ?_
       have w00 : IntKind.wrap .i64 0 = 0 := by decide
       simp [w00, hb]
       refine AYield.keepX [vi i, vS r] (L i r) (L (i + 1) r) KS (XS i) (XS (i + 1)) _ hY' (hL i r) (hL (i + 1) r) (hX _) ⟨fr, nt, ps, pa, pb, jmp, hr1, hr2⟩ (fun q hq => rfl) (by simp) ?_
       have hbb : ∀ q ∈ KS ++ XS i, q < 1016777216 := fun q hq => by have := hNX i q hq; omega
       have hbk : ∀ q ∈ KS, q < 1016777216 := fun q hq => by have := hN q hq; omega
       obtain ⟨F, hF⟩ : ∃ F, F = heapM (lk (L i r)) 1016777216 (lk (L i r)) KS (lk (L (i + 1) r)) := ⟨_, rfl⟩
       have hFp : ∀ p ∈ L (i + 1) r, F (sg KS 1016777216 p.1) = some (p.2.map (renC (sg KS 1016777216))) := fun p hp => by rw [hF]; exact heapX_at (hL i r) (hL (i + 1) r) hbb hp
       rw [<- hF]
       have hFa : F a = some [vS r] := by
         have h1 : (a, [vS r]) ∈ L (i + 1) r := lk_mem' (hbox (i + 1) r)
         have := hFp _ h1
         simpa [ha, renC, ren1, ren0] using this
       simp [hFa, hz, splice]
       refine ⟨i + 1, by omega, by omega, ?_⟩
       rw [hrs]
       refine Weak.keepX (b := 1016777216) hs (hL (i + 1) _) hbk (fun p hp => ?_) (hNX (i + 1)) _ ?_ ?_
       . rcases hset (i + 1) r (firL r).2 p hp with ⟨h1, h2⟩ | ⟨h1, h2⟩
         . rw [h1, h2, sg_in ha]
           simp [renC, ren1, ren0, e2]
         . have hne : ¬ sg KS 1016777216 p.1 = a := fun e => by
             unfold sg at e
             split at e
             . exact h1 e
             . omega
           have h3 := hFp p h2
           show upd F a (some [vS []]) (sg KS 1016777216 p.1) = _
           rw [upd_at, if_neg hne]
           exact h3
       . simp [rk, ra]
       . simp [hN k hk, hN a ha]
     . have e := idx_some hx
       have w0 : IntKind.wrap .i64 (Go.Lib.indexByte r 10 + 1) = ((firL r).1.length : Int) := by rw [wrap64 (by omega) (by omega)]; omega
       have n0 : ¬ (((firL r).1.length : Int) = 0) := by omega
       have n1 : ¬ ((firL r).1 = []) := fun e => by rw [e] at hfp; simp at hfp
       simp [p84l0, hb, h0]
       refine CLa c1 ?_
       simp [w0, n1, hb, i1, htk]
       refine AYield.keepX [vi i, vS (firL r).1] (L i r) (L (i + 1) r) KS (XS i) (XS (i + 1)) _ hY' (hL i r) (hL (i + 1) r) (hX _) ⟨fr, nt, ps, pa, pb, jmp, hr1, hr2⟩ (fun q hq => rfl) (by simp) ?_
       have hbb : ∀ q ∈ KS ++ XS i, q < 1013631488 := fun q hq => by have := hNX i q hq; omega
       have hbk : ∀ q ∈ KS, q < 1013631488 := fun q hq => by have := hN q hq; omega
       obtain ⟨F, hF⟩ : ∃ F, F = heapM (lk (L i r)) 1013631488 (lk (L i r)) KS (lk (L (i + 1) r)) := ⟨_, rfl⟩
       have hFp : ∀ p ∈ L (i + 1) r, F (sg KS 1013631488 p.1) = some (p.2.map (renC (sg KS 1013631488))) := fun p hp => by rw [hF]; exact heapX_at (hL i r) (hL (i + 1) r) hbb hp
       rw [<- hF]
       have hFa : F a = some [vS r] := by
         have h1 : (a, [vS r]) ∈ L (i + 1) r := lk_mem' (hbox (i + 1) r)
         have := hFp _ h1
         simpa [ha, renC, ren1, ren0] using this
       simp [hFa, hz, splice, hdr, i2]
       refine ⟨i + 1, by omega, by omega, ?_⟩
       rw [hrs]
       refine Weak.keepX (b := 1013631488) hs (hL (i + 1) _) hbk (fun p hp => ?_) (hNX (i + 1)) _ ?_ ?_
       . rcases hset (i + 1) r (firL r).2 p hp with ⟨h1, h2⟩ | ⟨h1, h2⟩
         . rw [h1, h2, sg_in ha]
           simp [renC, ren1, ren0]
         . have hne : ¬ sg KS 1013631488 p.1 = a := fun e => by
             unfold sg at e
             split at e
             . exact h1 e
             . omega
           have h3 := hFp p h2
           show upd F a (some [vS (firL r).2]) (sg KS 1013631488 p.1) = _
           rw [upd_at, if_neg hne]
           exact h3
       . simp [rk, ra]
       . simp [hN k hk, hN a ha]
def dKS : List Nat := [10485760, 9437184, 5242880, 6291456]
def dXS (ds : List Int) : List Nat := if ds = [] then [] else [7]
def hdD (ds : List Int) : V := if ds = [] then .d (.lit (.slice none 0 0)) else .ls 7 0 ds.length 1
def bkD (ds : List Int) : List (Nat × List V) := if ds = [] then [] else [(7, fcel intL ds)]
def dL (f : Nat -> V) (z : LSt) (r : By) (st : List Int × Int) : List (Nat × List V) := (10485760, [.lr f 39 [16, 17] p13l0 p13l1 z]) :: (9437184, [vS r]) :: (5242880, [hdD st.1]) :: (6291456, [vi st.2]) :: bkD st.1
theorem dKeep (f : Nat -> V) (z : LSt) (r : By) (st : List Int × Int) (hf : ∀ t, AV (· ∈ dKS) anyD (f t)) : KeepX dKS (dXS st.1) (dL f z r st) := by
 by_cases h : st.1 = []
 . refine ⟨by simp [dL, bkD, dXS, dKS, h], by simp [dXS, dKS, h], ?_⟩
   intro q hq
   simp only [dL, bkD, h, if_true, List.mem_cons, List.not_mem_nil, or_false] at hq
   rcases hq with rfl | rfl | rfl | rfl
   . exact ⟨by simp, Or.inr (.inl ⟨_, _, _, _, _, _, rfl⟩), fun c hc => by simp at hc; subst hc; exact hf⟩
   all_goals refine ⟨by simp, Or.inl rfl, fun c hc => ?_⟩
   all_goals simp only [List.mem_cons, List.not_mem_nil, or_false] at hc
   all_goals subst hc
   all_goals first | exact rfl | (simp only [hdD, if_true]; exact rfl)
 . refine ⟨by simp [dL, bkD, dXS, dKS, h], by simp [dXS, dKS, h], ?_⟩
   intro q hq
   simp only [dL, bkD, h, if_false, List.mem_cons, List.not_mem_nil, or_false] at hq
   rcases hq with rfl | rfl | rfl | rfl | rfl
   . exact ⟨by simp, Or.inr (.inl ⟨_, _, _, _, _, _, rfl⟩), fun c hc => by simp at hc; subst hc; exact hf⟩
   . exact ⟨by simp, Or.inl rfl, fun c hc => by simp at hc; subst hc; exact rfl⟩
   . refine ⟨by simp, Or.inl (by simp [hdD, h]), fun c hc => ?_⟩
     simp only [List.mem_cons, List.not_mem_nil, or_false] at hc
     subst hc
     simp [CX, hdD, h, W1, W0, rid, dXS, dKS]
   . exact ⟨by simp, Or.inl rfl, fun c hc => by simp at hc; subst hc; exact rfl⟩
   . obtain ⟨a, t, e⟩ := List.exists_cons_of_ne_nil h
     refine ⟨by rw [e, fcel_cons]; simp, Or.inl (List.all_eq_true.2 fun c hc => by obtain ⟨y, _, rfl⟩ := List.mem_map.1 (show c ∈ List.map V.d (List.map intL st.1).flatten from hc); rfl), fun c hc => ?_⟩
     obtain ⟨y, _, rfl⟩ := List.mem_map.1 (show c ∈ List.map V.d (List.map intL st.1).flatten from hc)
     exact rfl
structure DamF (f : Nat -> V) : Prop where
 av : ∀ t, AV (· ∈ dKS) anyD (f t)
 f4 : f 4 = .lp 5242880 0
 f5 : f 5 = .lp 6291456 0
theorem hfi1 : ∀ x : Int, (intL x).length = 1 := fun _ => rfl
theorem dmg_round (f : Nat -> V) (hF : DamF f) (i : Nat) (l r : By) (st : List Int × Int) (hl : l.length <= 1000000) (h0 : 0 <= st.2) (h1 : st.2 <= 675) (hn : st.1.length <= 1000000) :
   Ym prog 10485760 [vi i, vS l] (lk (dL f .ready r st)) dKS (.ret (vb true)) (lk (dL f .ready r (dmStep i st l))) := by
 obtain ⟨hf, f4, f5⟩ := hF
 have hlt : ∀ j ∈ dKS ++ dXS st.1, j < 11534336 := by
   intro j hj
   simp only [dKS, dXS, List.mem_append, List.mem_cons, List.not_mem_nil, or_false] at hj
   split at hj <;> simp at hj <;> omega
 have hW : ∀ z (ρ : Nat -> Option Nat), (∀ j ∈ dKS, ρ j = some j) -> WC ρ (.lr f 39 [16, 17] p13l0 p13l1 z) (.lr f 39 [16, 17] p13l0 p13l1 z) := fun z ρ hρ => ⟨rfl, fun t => AV.mono (fun j hj => hρ j hj) (fun _ h => h) (hf t)⟩
 have hC : ∀ z, cellsOk [.lr f 39 [16, 17] p13l0 p13l1 z] := fun z => Or.inr (.inl ⟨_, _, _, _, _, _, rfl⟩)
 have co := fn40 l (by omega)
 refine Ym.ofX (k := 10485760) (fr := f) (nt := 39) (ps := [16, 17]) (pa := p13l0) (pb := p13l1) (args := [vi i, vS l]) (s := .ready) gok eok mixed 11534336 (dKeep f .ready r st hf) (dKeep f .ready r (dmStep i st l) hf) hlt (by simp [dKS]) (by simp [dL]) (by simp) (by simp) (by simp) ?_
 have hne : ∀ ds : List Int, ¬ (ds ++ [(i : Int)] = []) := fun ds => by simp
 have hsl := fcel_len hfi1 st.1
 have hwh := fcel_whole hfi1 st.1
 rw [Nat.mul_one] at hsl hwh
 have n1 : (st.1.length + 1) * 8 <= 140737488355328 := by omega
 have n2 : st.1.length + 1 <= 9223372036854775807 := by omega
 unfold dmStep
 cases ho : openS (chopS l) with
 | none =>
   rw [ho] at co
   simp only
   by_cases he : st.1 = []
   . refine ⟨fun E hE hs => ?_⟩
     unfold dL
     simp only [he, bkD, hdD, if_true, List.nil_append, List.length_cons]
     generalize V.lr f 39 [16, 17] p13l0 p13l1 = rc at hW hC ⊢
     simp [p13l0, frPuts]
     simp [p13l1]
     refine CLa co ?_
     simp [f4, f5, splice, repl]
     have hW2 := hW .ready (lk [(10485760, 10485760), (9437184, 9437184), (5242880, 5242880), (6291456, 6291456), (7, 35651584)]) (by intro j hj; simp only [dKS, List.mem_cons, List.not_mem_nil, or_false] at hj; rcases hj with rfl | rfl | rfl | rfl <;> rfl)
     refine ⟨trivial, by simp, lk [(10485760, 10485760), (9437184, 9437184), (5242880, 5242880), (6291456, 6291456), (7, 35651584)], ?_⟩
     simp [hW2, hC, dKS, fcel]
   . refine ⟨fun E hE hs => ?_⟩
     unfold dL
     simp only [he, bkD, hdD, if_false, hne]
     generalize V.lr f 39 [16, 17] p13l0 p13l1 = rc at hW hC ⊢
     simp [p13l0, frPuts]
     simp [p13l1]
     refine CLa co ?_
     simp [f4, f5, splice, repl, hsl, hwh, n1, n2]
     have hW2 := hW .ready (lk [(10485760, 10485760), (9437184, 9437184), (5242880, 5242880), (6291456, 6291456), (7, 35651584)]) (by intro j hj; simp only [dKS, List.mem_cons, List.not_mem_nil, or_false] at hj; rcases hj with rfl | rfl | rfl | rfl <;> rfl)
     refine ⟨trivial, by simp, lk [(10485760, 10485760), (9437184, 9437184), (5242880, 5242880), (6291456, 6291456), (7, 35651584)], ?_⟩
     simp [hW2, hC, dKS, fcel_one]
 | some q =>
   obtain ⟨b, c⟩ := q
   have hbd := openS_bd ho
   have hcl := chop_len l
   rw [ho] at co
   have cs := fn50 b st.2 h0 (by omega) (by omega)
   simp only
   by_cases hc : sumS b st.2 = c
   . rw [if_pos hc]
     rw [hc] at cs
     by_cases he : st.1 = []
     . refine ⟨fun E hE hs => ?_⟩
       unfold dL
       simp only [he, bkD, hdD, if_true]
       generalize V.lr f 39 [16, 17] p13l0 p13l1 = rc at hW hC ⊢
       simp [p13l0, frPuts]
       simp [p13l1]
       refine CLa co ?_
       simp [f5]
       refine CLa cs ?_
       simp [f5, splice]
       have hW2 := hW .ready (lk [(10485760, 10485760), (9437184, 9437184), (5242880, 5242880), (6291456, 6291456), (7, 7)]) (by intro j hj; simp only [dKS, List.mem_cons, List.not_mem_nil, or_false] at hj; rcases hj with rfl | rfl | rfl | rfl <;> rfl)
       refine ⟨trivial, by simp, lk [(10485760, 10485760), (9437184, 9437184), (5242880, 5242880), (6291456, 6291456), (7, 7)], ?_⟩
       simp [hW2, hC, dKS]
     . refine ⟨fun E hE hs => ?_⟩
       unfold dL
       simp only [he, bkD, hdD, if_false]
       generalize V.lr f 39 [16, 17] p13l0 p13l1 = rc at hW hC ⊢
       simp [p13l0, frPuts]
       simp [p13l1]
       refine CLa co ?_
       simp [f5]
       refine CLa cs ?_
       simp [f5, splice]
       have hW2 := hW .ready (lk [(10485760, 10485760), (9437184, 9437184), (5242880, 5242880), (6291456, 6291456), (7, 7)]) (by intro j hj; simp only [dKS, List.mem_cons, List.not_mem_nil, or_false] at hj; rcases hj with rfl | rfl | rfl | rfl <;> rfl)
       refine ⟨trivial, by simp, lk [(10485760, 10485760), (9437184, 9437184), (5242880, 5242880), (6291456, 6291456), (7, 7)], ?_⟩
       simp [hW2, hC, dKS]
   . rw [if_neg hc]
     by_cases he : st.1 = []
     . refine ⟨fun E hE hs => ?_⟩
       unfold dL
       simp only [he, bkD, hdD, if_true, List.nil_append, List.length_cons]
       generalize V.lr f 39 [16, 17] p13l0 p13l1 = rc at hW hC ⊢
       simp [p13l0, frPuts]
       simp [p13l1]
       refine CLa co ?_
       simp [f5]
       refine CLa cs ?_
       simp [f4, f5, splice, repl, hc]
       have hW2 := hW .ready (lk [(10485760, 10485760), (9437184, 9437184), (5242880, 5242880), (6291456, 6291456), (7, 35651584)]) (by intro j hj; simp only [dKS, List.mem_cons, List.not_mem_nil, or_false] at hj; rcases hj with rfl | rfl | rfl | rfl <;> rfl)
       refine ⟨trivial, by simp, lk [(10485760, 10485760), (9437184, 9437184), (5242880, 5242880), (6291456, 6291456), (7, 35651584)], ?_⟩
       simp [hW2, hC, dKS, fcel]
     . refine ⟨fun E hE hs => ?_⟩
       unfold dL
       simp only [he, bkD, hdD, if_false, hne]
       generalize V.lr f 39 [16, 17] p13l0 p13l1 = rc at hW hC ⊢
       simp [p13l0, frPuts]
       simp [p13l1]
       refine CLa co ?_
       simp [f5]
       refine CLa cs ?_
       simp [f4, f5, splice, repl, hc, hsl, hwh, n1, n2]
       have hW2 := hW .ready (lk [(10485760, 10485760), (9437184, 9437184), (5242880, 5242880), (6291456, 6291456), (7, 35651584)]) (by intro j hj; simp only [dKS, List.mem_cons, List.not_mem_nil, or_false] at hj; rcases hj with rfl | rfl | rfl | rfl <;> rfl)
       refine ⟨trivial, by simp, lk [(10485760, 10485760), (9437184, 9437184), (5242880, 5242880), (6291456, 6291456), (7, 35651584)], ?_⟩
       simp [hW2, hC, dKS, fcel_one]
def dmgS (s : By) : List Int := (dmAt (linesOf s) (linesOf s).length).1
def hdR (ds : List Int) : V := if ds = [] then .d (.lit (.slice none 0 0)) else .ls 0 0 ds.length 1
def bkR (ds : List Int) : List (Nat × List V) := if ds = [] then [] else [(0, fcel intL ds)]
theorem dL_eq (f : Nat -> V) (z : LSt) (r : By) (st : List Int × Int) : dL f z r st = (10485760, [.lr f 39 [16, 17] p13l0 p13l1 z]) :: ((9437184, [vS r]) :: (5242880, [hdD st.1]) :: (6291456, [vi st.2]) :: bkD st.1) := rfl
theorem fn13 (s : By) (hl : s.length <= 40000) : Ct prog 13 [vS s] (.tup [hdR (dmgS s), vi 0]) (bkR (dmgS s)) := by
 have h1 : ¬ (40000 : Int) < s.length := by omega
 have c1 := fn38 s
 have hri : ResIds (.tup [hdR (dmgS s), vi 0]) (bkR (dmgS s)) := by
   unfold hdR bkR
   split
   . simp [ResIds]
   . simp [ResIds]
 refine Ct.byR gok eok mixed func13 c13 rfl (by simp [ntmps13]) (by simp) hri fun E hE hnt' => ?_
 simp [p13, h1, splice]
 refine CLa c1 ?_
 simp
 have hnt : E.nt = 39 := by rw [hnt'.1]; exact ntmps13
 rw [<- pw_rangeF (Γ := tys) (eqs := eqs)]
 obtain ⟨f, hf⟩ : ∃ f, f = upd (upd (upd (upd (upd (upd (upd (upd (upd (argF 0 [vS s]) 2 (V.d (D.lit (Value.slice none 0 0)))) 3 (V.d (D.lit (Value.int IntKind.i64 0)))) 11 (vS s)) 12 (V.d (D.lit (Value.int IntKind.i64 s.length)))) 13 (V.d (D.lit (Value.bool false)))) 4 (V.lp 5242880 0)) 5 (V.lp 6291456 0)) 14 (vS s)) 15 (V.cl 84 [V.lp 9437184 0]) := ⟨_, rfl⟩
 have hfA : ∀ t, AV (· ∈ dKS) anyD (f t) := fun t => by
   rw [hf]
   simp only [upd_at]
   split
   . intro c hc; simp at hc; subst hc; exact (by simp [dKS] : (9437184 : Nat) ∈ dKS)
   split
   . exact trivial
   split
   . exact (by simp [dKS] : (6291456 : Nat) ∈ dKS)
   split
   . exact (by simp [dKS] : (5242880 : Nat) ∈ dKS)
   split
   . exact trivial
   split
   . exact trivial
   split
   . exact trivial
   split
   . exact trivial
   split
   . exact trivial
   simp only [argF]
   split
   . exact trivial
   . exact fun c hc => by simp at hc
 have hFF : DamF f := ⟨hfA, by rw [hf]; simp, by rw [hf]; simp⟩
 have f15 : f 15 = .cl 84 [.lp 9437184 0] := by rw [hf]; simp
 obtain ⟨_, f4, f5⟩ := id hFF
 rw [<- hf]
 have hle : ∀ (i : Nat) (l : By), (linesOf s)[i]? = some l -> l.length <= 1000000 := fun i l h => by
   have := lines_mem_len (List.mem_of_getElem? h)
   omega
 have hll := lines_le s
 have hrun := lines_run s (by omega) dKS (fun i => dXS (dmAt (linesOf s) i).1) 10485760 9437184 (fun i r => dL f .ready r (dmAt (linesOf s) i)) (by simp [dKS]) (by simp [dKS]) (by simp [dKS]) (fun i x hx => by simp only [dXS] at hx; split at hx <;> simp at hx; omega) (fun i r => dKeep f .ready r _ hfA)
   (fun i r => ⟨f, 39, [16, 17], p13l0, p13l1, .ready, by simp [dL], rfl⟩) (fun i r => by simp [dL]) (fun i r r' p hp => by
     simp only [dL, List.mem_cons] at hp ⊢
     rcases hp with rfl | rfl | rfl | rfl | hp
     . exact .inr ⟨by simp, .inl rfl⟩
     . exact .inl ⟨rfl, rfl⟩
     . exact .inr ⟨by simp, .inr (.inr (.inl rfl))⟩
     . exact .inr ⟨by simp, .inr (.inr (.inr (.inl rfl)))⟩
     . refine .inr ⟨fun e => ?_, .inr (.inr (.inr (.inr hp)))⟩
       unfold bkD at hp
       split at hp
       . cases hp
       . simp at hp; subst hp; simp at e)
   (fun i l h => by
     have hb := dmAt_bd (linesOf s) i
     have hi := (List.getElem?_eq_some_iff.1 h).1
     have := dmg_round f hFF i l (restL i s) (dmAt (linesOf s) i) (hle i l h) hb.1 hb.2.1 (by omega)
     rw [<- dmAt_succ h] at this
     exact this)
 have hK0 := dKeep f .ready s (dmAt (linesOf s) 0) hfA
 have hKn := dKeep f .ready [] (dmAt (linesOf s) (linesOf s).length) hfA
 rw [dL_eq] at hK0 hKn
 simp only [dL_eq] at hrun
 obtain ⟨st, hst⟩ : ∃ st, dmAt (linesOf s) (linesOf s).length = st := ⟨_, rfl⟩
 have hds : dmgS s = st.1 := by unfold dmgS; rw [hst]
 rw [hst] at hKn hrun
 rw [hds]
 refine PRange.keepX ((9437184, [vS s]) :: (5242880, [hdD []]) :: (6291456, [vi 0]) :: bkD []) ((9437184, [vS []]) :: (5242880, [hdD st.1]) :: (6291456, [vi st.2]) :: bkD st.1) [9437184, 5242880, 6291456] [] (dXS st.1) (.tup []) .ready ⟨hnt'.2, by rw [hnt]; decide⟩ (g := 84) (caps := [.lp 9437184 0]) (by simp [f15]) (by rw [hnt]; exact hrun) (by rw [hnt]; exact hK0) (by rw [hnt]; exact hKn) (fun x hx => by simp only [dXS] at hx; split at hx <;> simp at hx; omega) (by simp) (by simp [bkD, hdD]) (by simp) fun F g1 g2 => ?_
 have F4 := g1 (5242880, [hdD st.1]) (by simp)
 by_cases he : st.1 = []
 . simp only [he, hdD, hdR, bkR, if_true] at F4 ⊢
   simp [renC, ren1, ren0] at F4
   show blkQ 0 _ .normal _
   simp [f4, F4]
   apply RZ
   simp [results13]
 . have F7 := g1 (7, fcel intL st.1) (by simp [bkD, he])
   simp only [he, hdD, hdR, bkR, if_false] at F4 F7 ⊢
   simp [renC, ren1, ren0] at F4 F7
   show blkQ 0 _ .normal _
   simp [f4, F4]
   refine RetOk.by (lk [(0, 11534343)]) ?_
   simp [results13, F7]
theorem int_one (x : Int) : fcel intL [x] = [vi x] := rfl
def errV : V := .d (.ifc 223 false [.ref []])
theorem ofErr {f : FuncId} {vs0 : List Value} {n : Int} (hf : isFn prog f)
   (h : ∀ W, GlobN W -> Calls prog f vs0.toArray W fun e W' => ∃ N c, e = .returned (.tuple #[.int .i64 n, .iface 223 (.pointer (some ⟨N, 0, none⟩))]) /\ W.heap.size <= N /\ W'.heap[N]? = some c /\ Below W.heap.size W W') : Ct prog f (vs0.map cV) (.tup [vi n, errV]) [] := by
 refine ⟨hf, fun G W xs hGW hargs hpre => ?_⟩
 have hx := lit_args hargs
 obtain ⟨xs⟩ := xs
 simp only at hx
 subst hx
 refine Calls.mono (h W hGW.globN) fun e W' ⟨N, c, he, hN, hc, hb⟩ => ?_
 subst he
 have hlt := (Array.getElem?_eq_some_iff.1 hc).1
 refine ⟨{ G with Im := fun b => G.Im b \/ b = N }, ⟨hb.os, hb.tape, hb.output, Nat.le_refl _, hb.size, fun b hb' _ => hb.block b hb', fun b hb' => ?_, fun _ h => .inl h, ?_, ?_, ?_, ?_, ?_⟩⟩
 . rcases hb' with h | rfl
   . exact ⟨Nat.lt_of_lt_of_le (hGW.1 b h) hb.size, .inl h⟩
   . exact ⟨hlt, .inr (.inl hN)⟩
 . refine ⟨_, rfl, .lit _ rfl, ?_, trivial⟩
   exact .ifc1 _ _ _ (.ref [] ⟨N, 0, none⟩ (fun _ => undef) (.inr rfl) (fun j x h => by simp at h) (fun j x h => by simp at h))
 . intro c hc
   simp at hc
   rcases hc with rfl | rfl <;> trivial
 . intro i cs h; cases h
 . intro i j h; simp [InH, lk] at h
 . intro i h; cases h
theorem synVar {W : World} (h : GlobN W) : ∃ tp p, W.var? prog "strconv.ErrSyntax" = some #[.iface tp p] := by
 obtain ⟨Wr, h1, h2⟩ := h
 have := h1 gSyn (by decide)
 obtain ⟨tp, p, h3⟩ : ∃ tp p, tabW Wr gSyn #[.iface tp p] := by simpa [globAt, gSyn, gMax] using this
 exact ⟨tp, p, tab_var (tab_of h3 h2) atoiL.m15⟩
theorem rngVar {W : World} (h : GlobN W) : ∃ tp p, W.var? prog "strconv.ErrRange" = some #[.iface tp p] := by
 obtain ⟨Wr, h1, h2⟩ := h
 have := h1 gRng (by decide)
 obtain ⟨tp, p, h3⟩ : ∃ tp p, tabW Wr gRng #[.iface tp p] := by simpa [globAt, gRng, gSyn, gMax] using this
 exact ⟨tp, p, tab_var (tab_of h3 h2) atoiL.m16⟩
def numA (s : By) : Int := match Go.Lib.atoiAll s with
 | .ok v => v
 | _ => -4611686018427387904
def isSyn : Go.Lib.NumEnd Int -> Bool
 | .ok _ => false
 | .range => false
 | _ => true
theorem atoi_three (s : By) : (∃ v, Go.Lib.atoiAll s = .ok v) \/ isSyn (Go.Lib.atoiAll s) = true \/ Go.Lib.atoiAll s = .range := by
 cases Go.Lib.atoiAll s <;> simp [isSyn]
theorem numA_syn {s : By} (h : isSyn (Go.Lib.atoiAll s) = true) : numA s = -4611686018427387904 := by
 unfold numA
 revert h
 cases Go.Lib.atoiAll s <;> simp [isSyn]
theorem atoi_syn (s : By) (hs : s.length <= 1000000000) (h : isSyn (Go.Lib.atoiAll s) = true) : Ct prog 90 [vS s] (.tup [vi 0, errV]) [] :=
 ofErr (vs0 := [.string (bs s)]) ⟨_, func90, by kernel_rfl, by decide⟩ fun W hW => by
   obtain ⟨tp, p, hv⟩ := synVar hW
   exact (Go.Proofs.Any.strconv_Atoi_syntax_var atoiL (bs s) (by simp only [bs_size]; omega) (by rw [bs_toList]; revert h; cases Go.Lib.atoiAll s <;> simp [isSyn]) tp p W hv).mono fun e W' ⟨N, he, hN, hc, hb⟩ => ⟨N, _, he, hN, hc, hb⟩
theorem atoi_rng (s : By) (hs : s.length <= 1000000000) (h : Go.Lib.atoiAll s = .range) : Ct prog 90 [vS s] (.tup [vi (Go.Lib.atoiSat s), errV]) [] :=
 ofErr (vs0 := [.string (bs s)]) ⟨_, func90, by kernel_rfl, by decide⟩ fun W hW => by
   obtain ⟨tp, p, hv⟩ := rngVar hW
   have := (Go.Proofs.Any.strconv_Atoi_range_var atoiL (bs s) (by simp only [bs_size]; omega) (by rw [bs_toList]; exact h) tp p W hv)
   rw [bs_toList] at this
   exact this.mono fun e W' ⟨N, he, hN, hc, hb⟩ => ⟨N, _, he, hN, hc, hb⟩
theorem number_ok (s : By) (v : Int) (hs : s.length <= 1000000000) (h : Go.Lib.atoiAll s = .ok v) : Ct prog 43 [vS s] (vi v) [] :=
 Cm.ofLit (vs0 := [.string (bs s)]) (v := .int .i64 v) ⟨_, func43, by kernel_rfl, by decide⟩ rfl fun W hW => by
   have e90 : ∀ args w, (callFunc 90 args).run prog w = .ok (.enter 90 args) w := Go.Proofs.enters_of func90 (by kernel_rfl) rfl
   go_enter func43, ntmps43
   go_wp2_with (go_at_fn 90; refine (Go.Proofs.Any.strconv_Atoi_ok atoiL (bs s) (by simp only [bs_size]; omega) v (by rw [bs_toList]; exact h) _).mono ?_; rintro e w' ⟨rfl, hw⟩)
   go_ret
   refine ⟨rfl, ?_⟩
   rcases hw with rfl | ⟨t, rfl⟩
   . exact Below.refl _ _
   . exact Go.Lib.bytesWorld_below _ _ _
theorem fn43 (s : By) (hs : s.length <= 1000000000) : Ct prog 43 [vS s] (vi (numA s)) [] := by
 cases atoi_three s with
 | inl h =>
   obtain ⟨v, h⟩ := h
   have := number_ok s v hs h
   simpa only [numA, h] using this
 | inr h =>
 cases h with
 | inl h =>
   have c1 := atoi_syn s hs h
   have h := numA_syn h
   unfold errV at c1
   refine CB func43 c43 fun E hE => ?_
   simp [p43]
   refine CLa c1 ?_
   simp
   apply RZ
   simp [results43, h]
 | inr h =>
   have c1 := atoi_rng s hs h
   unfold errV at c1
   refine CB func43 c43 fun E hE => ?_
   simp [p43]
   refine CLa c1 ?_
   simp
   apply RZ
   simp [results43, numA, h]
def splS (s : By) : List By := (Go.Lib.splitB (bs [32]) 0 (Go.Lib.countB (bs s) (bs [32])) (bs s)).map fun x => x.data.toList
theorem splitB_len (sep : ByteArray) (save : Nat) : ∀ (k : Nat) (s : ByteArray), 1 <= (Go.Lib.splitB sep save k s).length /\ (Go.Lib.splitB sep save k s).length <= k + 1
 | 0, s => by simp [Go.Lib.splitB]
 | k + 1, s => by
   unfold Go.Lib.splitB
   split
   . simp
   . have := splitB_len sep save k (s.extract ((Go.Lib.indexB s sep).toNat + sep.size) s.size)
     simp only [List.length_cons]
     omega
theorem splitB_mem (sep : ByteArray) : ∀ (k : Nat) (s x : ByteArray), x ∈ Go.Lib.splitB sep 0 k s -> x.size <= s.size
 | 0, s, x, h => by simp [Go.Lib.splitB] at h; subst h; exact Nat.le_refl _
 | k + 1, s, x, h => by
   unfold Go.Lib.splitB at h
   split at h
   . simp at h; subst h; exact Nat.le_refl _
   . rcases List.mem_cons.1 h with rfl | h
     . simp [ByteArray.size_extract]; omega
     . have := splitB_mem sep k _ x h
       simp [ByteArray.size_extract] at this
       omega
theorem splS_len (s : By) : 1 <= (splS s).length /\ (splS s).length <= s.length + 1 := by
 have h1 := splitB_len (bs [32]) 0 (Go.Lib.countB (bs s) (bs [32])) (bs s)
 have h2 := Go.Lib.countB_le (bs [32]) (by simp) (bs s).size (bs s) (Nat.le_refl _)
 unfold splS
 rw [List.length_map]
 simp only [bs_size] at h2
 omega
theorem splS_mem {s x : By} (h : x ∈ splS s) : x.length <= s.length := by
 obtain ⟨y, hy, rfl⟩ := List.mem_map.1 h
 have := splitB_mem _ _ _ _ hy
 rw [bs_size] at this
 rw [Array.length_toList]
 exact this
theorem split_at (s : By) (hs : s.length <= 1000000000) : Ct prog 42 [vS s, vS [32]] (.ls 0 0 (splS s).length 1) [(0, fcel strL (splS s))] := by
 have h := fn42 s [32] (by omega) (by simp)
 have e : fcel strL (splS s) = (Go.Lib.splitB (bs [32]) 0 (Go.Lib.countB (bs s) (bs [32])) (bs s)).map fun x => V.d (.lit (.string x)) := by
   unfold splS
   rw [<- strsV_eq]
   unfold strsV
   rw [List.map_map]
   refine List.map_congr_left fun x _ => ?_
   show V.d (.lit (.string (bs x.data.toList))) = _
   rw [bs_data]
 rw [e]
 have e2 : (splS s).length = (Go.Lib.splitB (bs [32]) 0 (Go.Lib.countB (bs s) (bs [32])) (bs s)).length := by unfold splS; rw [List.length_map]
 rw [e2]
 exact h
def frontS (s : By) : By := (Go.Lib.cut s [32, 59, 32]).1
def tailS (s : By) : By := (Go.Lib.cut s [32, 59, 32]).2.1
def entR (s : By) : Etr := ⟨numA ((splS (frontS s)).headD []), (splS (frontS s))[1]?.getD [], ((splS (frontS s)).drop 2).map numA, tailS s⟩
theorem cut_len (s sep : By) : (Go.Lib.cut s sep).1.length <= s.length /\ (Go.Lib.cut s sep).2.1.length <= s.length := by
 unfold Go.Lib.cut
 split
 . simp
   omega
 . simp
abbrev entZ : List V := [vi 0, vS [], .d (.lit (.slice none 0 0)), vS []]
theorem int_nil : fcel intL [] = [] := rfl
def argN (q : List By) (i : Nat) : List Int := (q.map numA).take i
theorem argN_zero (q : List By) : argN q 0 = [] := rfl
theorem argN_len {q : List By} {i : Nat} (h : i <= q.length) : (argN q i).length = i := by unfold argN; simp; omega
theorem argN_succ {q : List By} {i : Nat} {l : By} (h : q[i]? = some l) : argN q (i + 1) = argN q i ++ [numA l] := by
 unfold argN
 rw [List.take_add_one, List.getElem?_map, h]; rfl
theorem argN_all (q : List By) : argN q q.length = q.map numA := by unfold argN; exact List.take_of_length_le (by simp)
def hdF (ds : List Int) : V := if ds = [] then .d (.lit (.slice none 0 0)) else .ls 3 0 ds.length 1
def bkF (ds : List Int) : List (Nat × List V) := if ds = [] then [] else [(3, fcel intL ds)]
theorem entry_raw (s : By) (hs : s.length <= 1000000) : Ct prog 47 [vS s] (.agg [vi (entR s).t, vS (entR s).w, hdR (entR s).a, vS (entR s).n]) (bkR (entR s).a) := by
 have hri : ResIds (.agg [vi (entR s).t, vS (entR s).w, hdR (entR s).a, vS (entR s).n]) (bkR (entR s).a) := by
   unfold hdR bkR
   split
   . simp [ResIds]
   . simp [ResIds]
 have hne : ∀ (ds : List Int) (x : Int), ¬ (ds ++ [x] = []) := fun ds x => by simp
 unfold entR at hri ⊢
 simp only at hri ⊢
 have hcl := cut_len s [32, 59, 32]
 have c1 := fn94 s [32, 59, 32] (by omega)
 change Ct prog _ _ (.tup [vS (frontS s), vS (tailS s), vb (Go.Lib.cut s [32, 59, 32]).2.2]) _ at c1
 have hfl : (frontS s).length <= s.length := hcl.1
 have htl : (tailS s).length <= s.length := hcl.2
 have c2 := split_at (frontS s) (by omega)
 have hpl := splS_len (frontS s)
 have hpm : ∀ x ∈ splS (frontS s), x.length <= 1000000 := fun x hx => by have := splS_mem hx; omega
 generalize hP : splS (frontS s) = P at *
 generalize (Go.Lib.cut s [32, 59, 32]).2.2 = tf at *
 have hll := fcel_len hfs P
 rw [Nat.mul_one] at hll
 obtain ⟨p0, r, rfl⟩ := List.exists_cons_of_ne_nil (l := P) (fun e => by rw [e] at hpl; simp at hpl)
 have c3 := fn43 p0 (by have := hpm p0 (by simp); omega)
 have hp0 : (0 : Int) < (p0 :: r).length := by simp
 refine Ct.by gok eok mixed func47 c47 rfl (by simp [ntmps47]) (by simp) hri fun E hE => ?_
 simp [p47]
 refine CLa c1 ?_
 simp
 refine CLa c2 ?_
 simp [fcel_cons]
 refine CLa c3 ?_
 by_cases hr : r = []
 . subst hr
   simp [splice]
   refine RetOk.by (lk [(0, 0)]) ?_
   simp [results47, hdR, bkR]
 . obtain ⟨p1, q, rfl⟩ := List.exists_cons_of_ne_nil hr
   have hq1 : (1 : Int) < (q.length : Int) + 1 + 1 := by omega
   have hql : q.length <= 1000001 := by have := hpl.2; simp at this; omega
   have hqc : (∀ x ∈ fcel strL q, x.isCell = true) = True := eq_true fcel_cell
   have hq2 : (2 : Int) <= (q.length : Int) + 1 + 1 := by omega
   simp [splice, hq1, hq2, fcel_cons]
   refine pw_loop (α := Nat) (fun i => ⟨slots [(2, .lp 0 0), (7, .lp 1 0), (32, .ls 2 2 q.length 1), (33, vi q.length), (34, vi i)], lk ((0, entZ) :: (1, [vi (numA p0), vS p1, hdF (argN q i), vS (tailS s)]) :: (2, fcel strL (p0 :: p1 :: q)) :: bkF (argN q i)), 4⟩) (fun i => i <= q.length) (fun i => q.length - i) 0 ?_ ?_ ?_
   . omega
   . simp only [argN_zero, hdF, bkF, if_true]
     refine Weak.mk hE (lk [(0, 0), (1, 19922944), (2, 11534336)]) _ _ _ ?_ ?_ ?_ ?_ ?_ <;> simp [fcel_cons, hqc]
   . intro i hi
     have hn : (argN q i).length = i := argN_len hi
     have hsl := fcel_len hfi1 (argN q i)
     have hwh := fcel_whole hfi1 (argN q i)
     rw [Nat.mul_one, hn] at hsl hwh
     by_cases h : i < q.length
     . obtain ⟨l, hx⟩ := gE h
       have hI : (i : Int) < q.length := by omega
       have hz := @wz i (by omega)
       have hx2 : (p0 :: p1 :: q)[i + 2]? = some l := by simpa using hx
       have hcel : List.take 1 (List.drop (2 + i) (fcel strL (p0 :: p1 :: q))) = [vS l] := by
         have := fcel_sub hfs (x := l) (j := 0) (k := 1) hx2 (by omega)
         rw [Nat.add_comm 2 i]
         simpa using this
       have hlm := hpm l (by simp [List.mem_of_getElem? hx])
       have co := fn43 l (by omega)
       have n0 : 2 + i + 1 <= q.length + 1 + 1 := by omega
       have n1 : (i + 1) * 8 <= 140737488355328 := by omega
       have n2 : i + 1 <= 9223372036854775807 := by omega
       have hnx := argN_succ hx
       generalize hds : argN q i = ds at *
       by_cases he : ds = []
       . have hi0 : i = 0 := by rw [<- hn, he]; rfl
         simp only [hdF, bkF, he, if_true]
         simp [p47l0, hI, hcel, hll, n0, inC, Nat.testBit]
         refine CLa co ?_
         simp [splice, repl, hz]
         refine ⟨i + 1, by omega, by omega, ?_⟩
         rw [hnx]
         simp only [he, List.nil_append]
         refine Weak.mk hE (lk [(0, 0), (1, 1), (2, 2), (3, 9437188)]) _ _ _ ?_ ?_ ?_ ?_ ?_ <;> simp [int_nil, fcel_cons, hqc]
       . simp only [hdF, bkF, he, if_false]
         simp [p47l0, hI, hcel, hll, n0, inC, Nat.testBit]
         refine CLa co ?_
         simp [splice, repl, hz, hn, hsl, hwh, n1, n2]
         refine ⟨i + 1, by omega, by omega, ?_⟩
         rw [hnx]
         simp only [hne, if_false]
         refine Weak.mk hE (lk [(0, 0), (1, 1), (2, 2), (3, 9437188)]) _ _ _ ?_ ?_ ?_ ?_ ?_ <;> simp [fcel_one, fcel_cons, hqc, hn]
     . have e : i = q.length := by omega
       subst e
       have hI : ¬ ((q.length : Int) < q.length) := by omega
       rw [argN_all]
       by_cases he : q.map numA = []
       . simp only [hdF, bkF, he, if_true]
         simp [p47l0, splice]
         refine RetOk.by (lk [(0, 0)]) ?_
         simp [results47, hdR, bkR]
       . simp only [hdF, bkF, he, if_false]
         simp [p47l0, splice]
         refine RetOk.by (lk [(0, 3)]) ?_
         simp [results47, hdR, bkR, he]
end Go.Proofs.Tryz
namespace Go.Psl
variable {P : Program} {Γ : Tys} {eqs : Eqs} {K : RK} {Kx : V -> RK} {b n : Nat} {r : List PO} {f : Nat -> V} {H : Hp} {dst : Option Nat}
def panK (Kx : V -> RK) (f : Nat -> V) (H : Hp) (n : Nat) : V -> Prop
 | .d (.ifc t ag cs) => Kx (.d (.ifc t ag cs)) f H n
 | _ => False
theorem panK_ifc {t : TypeId} {ag : Bool} {cs : List D} : panK Kx f H n (.d (.ifc t ag cs)) = Kx (.d (.ifc t ag cs)) f H n := nrfl rfl
theorem rr_pan {x : Operand} : rr P Γ eqs Kx K b (⟨dst, .panic x, none⟩ :: r) f H = panK Kx f H (b + 1048576) (evF f x) := by
 simp only [rr, runR, PO.run, gV2, stepC, evalOp, true_and]
 unfold panK
 split
 . rename_i t ag cs h; rw [h]; simp
 . rename_i h
   simp only [eq_iff_iff, iff_false, not_and]
   rintro ⟨t, ag, cs, e⟩
   exact absurd e (h t ag cs)
attribute [simp] rr_pan panK_ifc xQ_eq
end Go.Psl
namespace Go.Proofs.Tryz
open Go.Psl
open Go.Log
theorem fn47 (s : By) (hs : s.length <= 1000000) : Ct prog 47 [vS s] (entV (entR s)) [] := by
 have h := entry_raw s hs
 generalize entR s = x at *
 refine Cm.freeze h ?_
 unfold hdR bkR
 by_cases he : x.a = []
 . rw [if_pos he, if_pos he]
   have e : intsD x.a = .sl 1 [] := by rw [he]; rfl
   rw [show entV x = .agg [vi x.t, vS x.w, .d (.sl 1 []), vS x.n] by rw [<- e]]
   exact ⟨⟨_, rfl, .inl rfl⟩, ⟨_, rfl, .inl rfl⟩, ⟨_, rfl, .inr ⟨rfl, _, rfl⟩⟩, ⟨_, rfl, .inl rfl⟩, trivial⟩
 . rw [if_neg he, if_neg he]
   exact ⟨⟨_, rfl, .inl rfl⟩, ⟨_, rfl, .inl rfl⟩, ⟨_, rfl, bor_fcel (f := intL) hfi1 (l := x.a) (by simp)⟩, ⟨_, rfl, .inl rfl⟩, trivial⟩
abbrev wrgD (line e : Int) : D := .ifc 87 true [di line, di e]
theorem need_ok (line e : Int) : Ct prog 39 [vb true, vi line, vi e] (.tup []) [] := by
 refine CB func39 c39 fun E hE => ?_
 simp [p39]
 apply RZ
 simp [results39]
theorem need_no (line e : Int) : Cm prog 39 [vb false, vi line, vi e] (lk []) [] (.pan (.d (wrgD line e))) (lk []) := by
 refine CM 0 func39 c39 fun E hs hE => ?_
 simp [p39, splice]
 refine ⟨fun _ => none, ?_, ?_, ?_, ?_⟩ <;> simp
end Go.Proofs.Tryz
namespace Go.Log
def splC (c : UInt8) : By -> List By
 | [] => [[]]
 | b :: r => if b = c then [] :: splC c r else match splC c r with
   | [] => [[b]]
   | x :: xs => (b :: x) :: xs
theorem splC_ne (c : UInt8) : ∀ s : By, splC c s ≠ []
 | [] => by simp [splC]
 | b :: r => by
   unfold splC
   split
   . simp
   . split <;> simp
theorem index_one_ne {b c : UInt8} (r : By) (h : b ≠ c) : Go.Lib.index (b :: r) [c] = if Go.Lib.index r [c] = -1 then -1 else Go.Lib.index r [c] + 1 := by
 have h1 : List.isPrefixOf [c] (b :: r) = false := by simp [List.isPrefixOf]; exact fun e => h e.symm
 conv => lhs; unfold Go.Lib.index
 rw [h1]
 simp only [Bool.false_eq_true, if_false, beq_iff_eq]
theorem splitC_eq (c : UInt8) : ∀ s : By, Go.Lib.splitK [c] 0 (Go.Lib.count s [c]) s = splC c s
 | [] => by
   have : Go.Lib.count [] [c] = 0 := by rw [Go.Lib.count_one]; rfl
   rw [this]; rfl
 | b :: r => by
   have ih := splitC_eq c r
   by_cases hb : b = c
   . subst hb
     have h0 : Go.Lib.index (b :: r) [b] = 0 := by
       unfold Go.Lib.index
       simp [List.isPrefixOf]
     rw [Go.Lib.count_cons_eq, Nat.add_comm]
     unfold Go.Lib.splitK splC
     rw [h0]
     simp only [if_true]
     rw [<- ih]
     simp
   . rw [Go.Lib.count_cons_ne _ _ _ hb]
     unfold splC
     rw [if_neg hb, <- ih]
     cases hk : Go.Lib.count r [c] with
     | zero => rfl
     | succ k =>
       have hne : ¬ Go.Lib.index r [c] = -1 := fun e => by rw [Go.Lib.count_miss e] at hk; cases hk
       have hge := Go.Lib.index_ge r [c]
       obtain ⟨i, hi⟩ : ∃ i : Nat, Go.Lib.index r [c] = i := ⟨(Go.Lib.index r [c]).toNat, by omega⟩
       have h1 : ¬ ((i : Int) = -1) := by omega
       have h2 : ¬ ((i : Int) + 1 = -1) := by omega
       unfold Go.Lib.splitK
       rw [index_one_ne r hb, hi, if_neg h1]
       simp only [beq_iff_eq, h1, h2, if_false, Nat.add_zero]
       have e1 : ((i : Int) + 1).toNat = i + 1 := by omega
       have e2 : (i : Int).toNat = i := by omega
       rw [e1, e2]
       simp
abbrev splP : By -> List By := splC 32
theorem split_eq (s : By) : Go.Lib.splitK [32] 0 (Go.Lib.count s [32]) s = splP s := splitC_eq 32 s
theorem splC_len (c : UInt8) : ∀ s : By, 1 <= (splC c s).length /\ (splC c s).length <= s.length + 1
 | [] => by simp [splC]
 | b :: r => by
   have ih := splC_len c r
   unfold splC
   split
   . simp; omega
   . obtain ⟨x, xs, e⟩ := List.exists_cons_of_ne_nil (splC_ne c r)
     rw [e] at ih ⊢
     simp at ih ⊢; omega
theorem splC_mem {c : UInt8} : ∀ {s x : By}, x ∈ splC c s -> x.length <= s.length
 | [], x, h => by simp [splC] at h; subst h; simp
 | b :: r, x, h => by
   unfold splC at h
   split at h
   . rcases List.mem_cons.1 h with rfl | h
     . simp
     . have := splC_mem (s := r) h; simp; omega
   . obtain ⟨y, ys, e⟩ := List.exists_cons_of_ne_nil (splC_ne c r)
     rw [e] at h
     rcases List.mem_cons.1 h with rfl | h
     . have := splC_mem (s := r) (x := y) (by rw [e]; simp)
       simp; omega
     . have := splC_mem (s := r) (x := x) (by rw [e]; simp [h])
       simp; omega
def digs : By -> Int -> Option Int
 | [], n => some n
 | d :: r, n => if dgB d = true /\ n <= 1000000000000 then digs r (n * 10 + ((d.toNat : Int) - 48)) else none
def negB (s : By) : Bool := decide (s.head? = some 45)
def dgsOf (s : By) : By := if negB s then s.tail else s
def sgn (s : By) (n : Int) : Int := if negB s then -n else n
def valS (s : By) : Int × Bool := match digs (dgsOf s) 0 with
 | none => (0, false)
 | some n => (sgn s n, decide (dgsOf s ≠ []) && decide (numS (sgn s n) = s))
def numP (s : By) : Int := match Go.Lib.atoiAll s with
 | .ok v => v
 | _ => -4611686018427387904
def frontP (s : By) : By := (Go.Lib.cut s [32, 59, 32]).1
def tailP (s : By) : By := (Go.Lib.cut s [32, 59, 32]).2.1
def entP (s : By) : Etr := ⟨numP ((splP (frontP s)).headD []), (splP (frontP s))[1]?.getD [], ((splP (frontP s)).drop 2).map numP, tailP s⟩
def etP (b : By) (last : Int) : Option Etr := if entS (entP b) && decide (last <= (entP b).t) && decide (bodyS (entP b) = b) then some (entP b) else none
theorem ent_time {x : Etr} (h : entS x = true) : 0 <= x.t /\ x.t <= 1000000 := by
 simp only [entS, betw, Bool.and_eq_true, decide_eq_true_eq] at h
 exact h.1.1.1.1
theorem etP_some {b : By} {last : Int} {x : Etr} (h : etP b last = some x) : entS x = true /\ last <= x.t /\ bodyS x = b := by
 unfold etP at h
 split at h
 . rename_i hc
   cases h
   simp only [Bool.and_eq_true, decide_eq_true_eq] at hc
   exact ⟨hc.1.1, hc.1.2, hc.2⟩
 . cases h
def hdP (b : By) : Option (By × Int) := match splP b with
 | [_, f1, f2] => if shipS f1 && betw (numP f2) 0 200 && decide (headS f1 (numP f2) = b) then some (f1, numP f2) else none
 | _ => none
def hdF (b : By) : Option (By × Int) := match splP b with
 | [f0, f1, f2] => if (valS f2).2 && decide (f0 = [76, 79, 71]) && shipS f1 && betw (valS f2).1 0 200 then some (f1, (valS f2).1) else none
 | _ => none
theorem hdP_some {b s : By} {n : Int} (h : hdP b = some (s, n)) : shipS s = true /\ 0 <= n /\ n <= 200 /\ headS s n = b := by
 unfold hdP at h
 split at h
 . split at h
   . rename_i hc
     cases h
     simp only [Bool.and_eq_true, decide_eq_true_eq, betw] at hc
     exact ⟨hc.1.1, hc.1.2.1, hc.1.2.2, hc.2⟩
   . cases h
 . cases h
structure Rst where
 s : By
 es : List Etr
 n : Int
 c : Int
def lastE (es : List Etr) : Int := (es.getLast?).elim 0 Etr.t
def rd0 : Rst := ⟨[], [], 0, 0⟩
def rdBody (i : Nat) (st : Rst) (b : By) : Option Rst := if i = 0 then (hdP b).map fun p => ⟨p.1, st.es, p.2, sumS b st.c⟩ else (etP b (lastE st.es)).map fun x => ⟨st.s, st.es ++ [x], st.n, sumS b st.c⟩
def rdStep (i : Nat) (st : Rst) (l : By) (fed : Bool) : Except Int Rst :=
 if st.n < i then .error 93 else match (if fed then openS l else none) with
 | none => .error 91
 | some (b, c) => match rdBody i st b with
   | none => .error 91
   | some st' => if st'.c = c then .ok st' else .error 92
def rdAt (ls : List (By × Bool)) : Nat -> Except (Int × Int) Rst
 | 0 => .ok rd0
 | i + 1 => match rdAt ls i with
   | .error e => .error e
   | .ok st => match ls[i]? with
     | none => .ok st
     | some p => match rdStep i st p.1 p.2 with
       | .error e => .error (i, e)
       | .ok st' => .ok st'
def fedS (l : By) : Bool := decide (l.getLast? = some 10)
def fedsOf (s : By) : List (By × Bool) := (linesOf s).map fun l => (chopS l, fedS l)
def rdFin (ls : List (By × Bool)) : Lg × Int × Int := match rdAt ls ls.length with
 | .error (k, e) => (⟨[], []⟩, k, e)
 | .ok st => if ls = [] then (⟨[], []⟩, 0, 91) else if (ls.length : Int) <= st.n then (⟨[], []⟩, ls.length, 93) else (⟨st.s, st.es⟩, 0, 0)
def readS (s : By) : Lg × Int × Int := rdFin (fedsOf s)
structure RdOk (i : Nat) (st : Rst) : Prop where
 c0 : 0 <= st.c
 c1 : st.c < 673
 n0 : 0 <= st.n
 n1 : st.n <= 200
 len : st.es.length = i - 1
 es : ordS 0 st.es = true
 s : i ≠ 0 -> shipS st.s = true
 z : i = 0 -> st = rd0
theorem ordS_snoc : ∀ (es : List Etr) (last : Int) (x : Etr), ordS last (es ++ [x]) = (ordS last es && (entS x && decide (((es.getLast?).elim last Etr.t) <= x.t)))
 | [], last, x => by simp [ordS]; rfl
 | y :: r, last, x => by
   simp only [List.cons_append, ordS, ordS_snoc r]
   cases r with
   | nil => simp [Bool.and_assoc]; rfl
   | cons z r => simp [Bool.and_assoc, List.getLast?_cons]
theorem rdStep_ok {i : Nat} {st st' : Rst} {l : By} {fed : Bool} (h : RdOk i st) (hs : rdStep i st l fed = .ok st') : RdOk (i + 1) st' := by
 unfold rdStep at hs
 split at hs
 . cases hs
 . split at hs
   . cases hs
   . rename_i b c ho
     split at hs
     . cases hs
     . rename_i st2 hb
       split at hs
       . cases hs
         have hcl := sumS_lt b st.c h.c0 h.c1
         unfold rdBody at hb
         split at hb
         . rename_i hi
           cases hp : hdP b with
           | none => rw [hp] at hb; cases hb
           | some p =>
             obtain ⟨s, n⟩ := p
             rw [hp] at hb
             cases hb
             obtain ⟨h1, h2, h3, h4⟩ := hdP_some hp
             subst hi
             have hz := h.z rfl
             exact ⟨hcl.1, hcl.2, h2, h3, by rw [hz]; rfl, by rw [hz]; rfl, fun _ => h1, nofun⟩
         . rename_i hi
           cases hp : etP b (lastE st.es) with
           | none => rw [hp] at hb; cases hb
           | some x =>
             rw [hp] at hb
             cases hb
             obtain ⟨h1, h2, h3⟩ := etP_some hp
             refine ⟨hcl.1, hcl.2, h.n0, h.n1, ?_, ?_, fun _ => h.s hi, nofun⟩
             . have := h.len
               simp; omega
             . show ordS 0 (st.es ++ [x]) = true
               rw [ordS_snoc, h.es, h1]
               simpa [lastE] using h2
       . cases hs
theorem rdAt_ok {ls : List (By × Bool)} : ∀ {i : Nat} {st : Rst}, i <= ls.length -> rdAt ls i = .ok st -> RdOk i st
 | 0, st, _, h => by cases h; exact ⟨by decide, by decide, by decide, by decide, rfl, rfl, fun h => absurd rfl h, fun _ => rfl⟩
 | i + 1, st, hi, h => by
   unfold rdAt at h
   split at h
   . cases h
   . rename_i st0 h0
     have ih := rdAt_ok (i := i) (by omega) h0
     split at h
     . rename_i hn
       have := List.getElem?_eq_none_iff.1 hn
       omega
     . rename_i p hp
       split at h
       . cases h
       . rename_i st' hs
         cases h
         exact rdStep_ok ih hs
theorem rdAt_succ {ls : List (By × Bool)} {i : Nat} {st : Rst} {p : By × Bool} (h : rdAt ls i = .ok st) (hp : ls[i]? = some p) : rdAt ls (i + 1) = match rdStep i st p.1 p.2 with
   | .error e => .error ((i : Int), e)
   | .ok st' => .ok st' := by
 rw [rdAt, h]; simp only [hp]
theorem rd_cases (ls : List (By × Bool)) : (∃ st, rdAt ls ls.length = .ok st /\ ∀ i, i <= ls.length -> ∃ st, rdAt ls i = .ok st) \/
   ∃ (j : Nat) (p : By × Bool) (st : Rst) (e : Int), ls[j]? = some p /\ rdAt ls j = .ok st /\ rdStep j st p.1 p.2 = .error e /\ rdAt ls ls.length = .error ((j : Int), e) /\ ∀ i, i <= j -> ∃ st, rdAt ls i = .ok st := by
 have key : ∀ n, n <= ls.length -> (∀ i, i <= n -> ∃ st, rdAt ls i = .ok st) \/ ∃ (j : Nat) (p : By × Bool) (st : Rst) (e : Int), ls[j]? = some p /\ rdAt ls j = .ok st /\ rdStep j st p.1 p.2 = .error e /\ rdAt ls n = .error ((j : Int), e) /\ ∀ i, i <= j -> ∃ st, rdAt ls i = .ok st := by
   intro n
   induction n with
   | zero => intro _; exact .inl fun i hi => by have : i = 0 := by omega
                                                subst this; exact ⟨_, rfl⟩
   | succ n ih =>
     intro hn
     rcases ih (by omega) with h | ⟨j, p, st, e, h1, h2, h3, h4, h5⟩
     . obtain ⟨st, hst⟩ := h n (Nat.le_refl _)
       have hp : ls[n]? = some ls[n] := List.getElem?_eq_getElem (by omega)
       have hs := rdAt_succ hst hp
       cases hq : rdStep n st ls[n].1 ls[n].2 with
       | ok st' =>
         rw [hq] at hs
         refine .inl fun i hi => ?_
         by_cases e : i = n + 1
         . subst e; exact ⟨st', hs⟩
         . exact h i (by omega)
       | error e =>
         rw [hq] at hs
         exact .inr ⟨n, _, st, e, hp, hst, hq, hs, h⟩
     . refine .inr ⟨j, p, st, e, h1, h2, h3, ?_, h5⟩
       rw [rdAt, h4]
 rcases key ls.length (Nat.le_refl _) with h | h
 . obtain ⟨st, hst⟩ := h ls.length (Nat.le_refl _)
   exact .inl ⟨st, hst, h⟩
 . exact .inr h
end Go.Log
namespace Go.Proofs.Tryz
open Go.Psl
open Go.Log
abbrev strsD (l : List By) : D := .sl 1 (l.map strL)
theorem three_of {α : Type} {l : List α} (h : l.length = 3) : ∃ a b c, l = [a, b, c] := by
 match l, h with
 | [a, b, c], _ => exact ⟨a, b, c, rfl⟩
theorem rdFin_err {fs : List (By × Bool)} {i : Nat} {p : By × Bool} {st : Rst} {e : Int} (h1 : rdAt fs i = .ok st) (h2 : fs[i]? = some p) (h3 : rdStep i st p.1 p.2 = .error e) : rdFin fs = (⟨[], []⟩, (i : Int), e) := by
 have hs := rdAt_succ h1 h2
 rw [h3] at hs
 have hi := (List.getElem?_eq_some_iff.1 h2).1
 have key : ∀ k, rdAt fs (i + 1 + k) = .error ((i : Int), e) := by
   intro k
   induction k with
   | zero => exact hs
   | succ k ih => rw [<- Nat.add_assoc, rdAt, ih]
 have := key (fs.length - (i + 1))
 rw [show i + 1 + (fs.length - (i + 1)) = fs.length by omega] at this
 unfold rdFin
 rw [this]
theorem hfe : ∀ x : Etr, (entL x).length = 4 := fun _ => rfl
def hdX (es : List Etr) : V := if es = [] then .d (.lit (.slice none 0 0)) else .ls 0 0 es.length 4
def bkX (es : List Etr) : List (Nat × List V) := if es = [] then [] else [(0, fcel entL es)]
abbrev rdV (r : Lg × Int × Int) : V := .tup [.agg [vS r.1.s, hdX r.1.es], vi r.2.1, vi r.2.2]
def rdG (fs : List (By × Bool)) (i : Nat) : Rst := match rdAt fs i with
 | .ok st => st
 | .error _ => rd0
theorem rdG_ok {fs : List (By × Bool)} {i : Nat} {st : Rst} (h : rdAt fs i = .ok st) : rdG fs i = st := by unfold rdG; rw [h]
theorem hri_rd (r : Lg × Int × Int) : ResIds (rdV r) (bkX r.1.es) := by
 unfold rdV hdX bkX
 split
 . simp [ResIds]
 . simp [ResIds]
end Go.Proofs.Tryz
