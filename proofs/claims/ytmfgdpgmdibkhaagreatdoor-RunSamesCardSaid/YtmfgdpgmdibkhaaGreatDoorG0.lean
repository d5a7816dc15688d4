/- RunSames (cabinetrylaw21): a part of the proof that the law's function answers true, whatever it is handed; its conditions are those of the given card. -/
import Derived.Laws.Sem
import Derived.Laws.World
import Derived.CallsIn
import Derived.IntWalk
import Derived.Laws.Strings
import Derived.Laws.CopyRow
import Derived.Laws.Append
import Derived.Laws.Slices
import Derived.Laws.NewBlocks
import Derived.Lib.SlBytesConst
import Derived.Laws.StructEq
import Derived.MapKept
import Derived.Lib.MakeNoZero
import Derived.Lib.UnsafeStr
import Derived.Lib.Builder
import Derived.Lib.ConvBytes
import Derived.Laws.BytesString
section
namespace Go.Abs
inductive Ix where
  | e
  | o (x : Ix)
  | i (x : Ix)
  deriving DecidableEq
def Ix.val : Ix → Nat
  | .e => 0
  | .o x => 2 * x.val + 1
  | .i x => 2 * x.val + 2
theorem Ix.val_inj : ∀ {x y : Ix}, x.val = y.val → x = y
  | .e, .e, _ => rfl
  | .e, .o y, h => by simp [Ix.val] at h
  | .e, .i y, h => by simp [Ix.val] at h
  | .o x, .e, h => by simp [Ix.val] at h
  | .i x, .e, h => by simp [Ix.val] at h
  | .o x, .o y, h => by
    have : x.val = y.val := by simp only [Ix.val] at h; omega
    rw [Ix.val_inj this]
  | .i x, .i y, h => by
    have : x.val = y.val := by simp only [Ix.val] at h; omega
    rw [Ix.val_inj this]
  | .o x, .i y, h => by simp only [Ix.val] at h; omega
  | .i x, .o y, h => by simp only [Ix.val] at h; omega
def Ix.succ : Ix → Ix
  | .e => .o .e
  | .o x => .i x
  | .i x => .o x.succ
theorem Ix.val_succ : ∀ x : Ix, x.succ.val = x.val + 1
  | .e => rfl
  | .o x => rfl
  | .i x => by simp only [Ix.succ, Ix.val, Ix.val_succ x]; omega
def ixF : Nat → Nat → Ix
  | 0, _ => .e
  | _ + 1, 0 => .e
  | f + 1, m + 1 => if m % 2 = 0 then .o (ixF f (m / 2)) else .i (ixF f (m / 2))
theorem ixF_val : ∀ (f n : Nat), n ≤ f → (ixF f n).val = n
  | 0, n, h => by have : n = 0 := by omega
                  subst this; rfl
  | f + 1, 0, _ => rfl
  | f + 1, m + 1, h => by
    simp only [ixF]
    split
    · rename_i hm
      simp only [Ix.val, ixF_val f (m / 2) (by omega)]; omega
    · rename_i hm
      simp only [Ix.val, ixF_val f (m / 2) (by omega)]; omega
def ix (n : Nat) : Ix := ixF n n
@[simp] theorem ix_val (n : Nat) : (ix n).val = n := ixF_val n n (Nat.le_refl n)
theorem ix_of_val (x : Ix) : ix x.val = x := Ix.val_inj (ix_val _)
inductive T (α : Type) where
  | nil
  | node (v : Option α) (l r : T α)
section
variable {α β : Type}
def T.get : T α → Ix → Option α
  | .nil, _ => none
  | .node v _ _, .e => v
  | .node _ l _, .o x => l.get x
  | .node _ _ r, .i x => r.get x
def T.set (v : Option α) : Ix → T α → T α
  | .e, .nil => .node v .nil .nil
  | .e, .node _ l r => .node v l r
  | .o x, .nil => .node none (T.set v x .nil) .nil
  | .o x, .node u l r => .node u (T.set v x l) r
  | .i x, .nil => .node none .nil (T.set v x .nil)
  | .i x, .node u l r => .node u l (T.set v x r)
def T.setK (v : Option α) : Ix → T α → (T α → β) → β
  | .e, .nil, k => k (.node v .nil .nil)
  | .e, .node _ l r, k => k (.node v l r)
  | .o x, .nil, k => T.setK v x .nil fun l => k (.node none l .nil)
  | .o x, .node u l r, k => T.setK v x l fun l => k (.node u l r)
  | .i x, .nil, k => T.setK v x .nil fun r => k (.node none .nil r)
  | .i x, .node u l r, k => T.setK v x r fun r => k (.node u l r)
theorem T.setK_eq (v : Option α) : ∀ (x : Ix) (t : T α) (k : T α → β), T.setK v x t k = k (T.set v x t)
  | .e, .nil, k => rfl
  | .e, .node _ l r, k => rfl
  | .o x, .nil, k => by simp only [T.setK, T.set, T.setK_eq v x]
  | .o x, .node u l r, k => by simp only [T.setK, T.set, T.setK_eq v x]
  | .i x, .nil, k => by simp only [T.setK, T.set, T.setK_eq v x]
  | .i x, .node u l r, k => by simp only [T.setK, T.set, T.setK_eq v x]
@[simp] theorem T.get_nil (x : Ix) : (T.nil : T α).get x = none := by cases x <;> rfl
theorem T.get_set_same (v : Option α) : ∀ (x : Ix) (t : T α), (T.set v x t).get x = v
  | .e, .nil => rfl
  | .e, .node _ l r => rfl
  | .o x, .nil => T.get_set_same v x .nil
  | .o x, .node u l r => T.get_set_same v x l
  | .i x, .nil => T.get_set_same v x .nil
  | .i x, .node u l r => T.get_set_same v x r
theorem T.get_set_ne (v : Option α) : ∀ (x y : Ix) (t : T α), y ≠ x → (T.set v x t).get y = t.get y
  | .e, .e, t, h => absurd rfl h
  | .e, .o y, .nil, h => by simp [T.set, T.get]
  | .e, .o y, .node _ l r, h => by simp [T.set, T.get]
  | .e, .i y, .nil, h => by simp [T.set, T.get]
  | .e, .i y, .node _ l r, h => by simp [T.set, T.get]
  | .o x, .e, .nil, h => by simp [T.set, T.get]
  | .o x, .e, .node _ l r, h => by simp [T.set, T.get]
  | .o x, .o y, .nil, h => by
    have := T.get_set_ne v x y .nil (fun e => h (e ▸ rfl))
    simpa [T.set, T.get] using this
  | .o x, .o y, .node u l r, h => by
    have := T.get_set_ne v x y l (fun e => h (e ▸ rfl))
    simpa [T.set, T.get] using this
  | .o x, .i y, .nil, h => by simp [T.set, T.get]
  | .o x, .i y, .node u l r, h => by simp [T.set, T.get]
  | .i x, .e, .nil, h => by simp [T.set, T.get]
  | .i x, .e, .node _ l r, h => by simp [T.set, T.get]
  | .i x, .o y, .nil, h => by simp [T.set, T.get]
  | .i x, .o y, .node u l r, h => by simp [T.set, T.get]
  | .i x, .i y, .nil, h => by
    have := T.get_set_ne v x y .nil (fun e => h (e ▸ rfl))
    simpa [T.set, T.get] using this
  | .i x, .i y, .node u l r, h => by
    have := T.get_set_ne v x y r (fun e => h (e ▸ rfl))
    simpa [T.set, T.get] using this
theorem T.get_set (v : Option α) (x y : Ix) (t : T α) : (T.set v x t).get y = if y = x then v else t.get y := by
  split
  · rename_i h; subst h; exact T.get_set_same v y t
  · rename_i h; exact T.get_set_ne v x y t h
theorem T.set_set (u v : Option α) : ∀ (x : Ix) (t : T α), T.set u x (T.set v x t) = T.set u x t
  | .e, .nil => rfl
  | .e, .node _ l r => rfl
  | .o x, .nil => by simp [T.set, T.set_set u v x]
  | .o x, .node w l r => by simp [T.set, T.set_set u v x]
  | .i x, .nil => by simp [T.set, T.set_set u v x]
  | .i x, .node w l r => by simp [T.set, T.set_set u v x]
end
inductive AV where
  | bool (b : Bool)
  | int (k : IntKind) (n : Int)
  | ge (n : Int)
  | str (n : Nat) (l : List Nat)
  | nptr
  | ptr (b : Ix) (o : Nat)
  | nslice
  | slice (b : Ix) (o len cap : Nat) (ex : Nat)
  | nmap
  | map (b : Ix)
  | func (f : FuncId) (first cap : List AV)
  | yield (b : Ix)
  | nfunc
  | iface (t : TypeId) (v : AV)
  | niface
  | agg (l : List AV)
  | tuple (l : List AV)
structure Sig where
  at_ : Ix → Option Nat
  sz : Nat → Nat
instance : CoeFun Sig (fun _ => Ix → Option Nat) := ⟨Sig.at_⟩
def strBytes (s : ByteArray) : List Nat := s.data.toList.map UInt8.toNat
mutual
inductive VRel (σ : Sig) : AV → Value → Prop
  | bool (b : Bool) : VRel σ (.bool b) (.bool b)
  | int (k : IntKind) (n : Int) : VRel σ (.int k n) (.int k n)
  | ge {lo n : Int} (h : lo ≤ n) (h' : n < 9223372036854775808) : VRel σ (.ge lo) (.int .i64 n)
  | str {n : Nat} {l : List Nat} {s : ByteArray} (h : strBytes s = l) (hn : s.size = n) : VRel σ (.str n l) (.string s)
  | nptr : VRel σ .nptr (.pointer none)
  | ptr {b : Ix} {o c : Nat} (h : σ b = some c) : VRel σ (.ptr b o) (.pointer (some ⟨c, o, none⟩))
  | nslice : VRel σ .nslice (.slice none 0 0)
  | slice {b : Ix} {o len cap c cap' : Nat} {ex : Nat} (h : σ b = some c) (hc : cap ≤ cap') (he : ex = 0 → cap' = cap) (ho : ex ≠ 0 → o + cap' * ex = σ.sz c)
      (hm : cap' < 9223372036854775808) :
      VRel σ (.slice b o len cap ex) (.slice (some ⟨c, o, none⟩) len cap')
  | nmap : VRel σ .nmap (.map none)
  | map {b : Ix} {c : Nat} (h : σ b = some c) : VRel σ (.map b) (.map (some c))
  | func {f : FuncId} {first cap : List AV} {first' cap' : Array Value} (h₁ : VsRel σ first first'.toList) (h₂ : VsRel σ cap cap'.toList) :
      VRel σ (.func f first cap) (.func (.func f) first' cap')
  | yield {b : Ix} {c : Nat} (h : σ b = some c) : VRel σ (.yield b) (.func (.yield c) #[] #[])
  | nfunc : VRel σ .nfunc .nilFunc
  | iface {t : TypeId} {v : AV} {v' : Value} (h : VRel σ v v') : VRel σ (.iface t v) (.iface t v')
  | niface : VRel σ .niface .nilIface
  | agg {l : List AV} {vs : Array Value} (h : VsRel σ l vs.toList) : VRel σ (.agg l) (.agg vs)
  | tuple {l : List AV} {vs : Array Value} (h : VsRel σ l vs.toList) : VRel σ (.tuple l) (.tuple vs)
inductive VsRel (σ : Sig) : List AV → List Value → Prop
  | nil : VsRel σ [] []
  | cons {a : AV} {v : Value} {l : List AV} {vs : List Value} (h : VRel σ a v) (t : VsRel σ l vs) : VsRel σ (a :: l) (v :: vs)
end
structure Sig.le (σ σ' : Sig) : Prop where
  at_ : ∀ a c, σ a = some c → σ' a = some c
  sz : ∀ a c, σ a = some c → σ'.sz c = σ.sz c
theorem Sig.le_refl (σ : Sig) : Sig.le σ σ := ⟨fun _ _ h => h, fun _ _ _ => rfl⟩
theorem Sig.le_trans {σ₁ σ₂ σ₃ : Sig} (h : Sig.le σ₁ σ₂) (h' : Sig.le σ₂ σ₃) : Sig.le σ₁ σ₃ :=
  ⟨fun a c e => h'.at_ a c (h.at_ a c e), fun a c e => (h'.sz a c (h.at_ a c e)).trans (h.sz a c e)⟩
mutual
theorem VRel.mono {σ σ' : Sig} (hs : Sig.le σ σ') : ∀ {a : AV} {v : Value}, VRel σ a v → VRel σ' a v
  | _, _, .bool b => .bool b
  | _, _, .int k n => .int k n
  | _, _, .ge h h' => .ge h h'
  | _, _, .str h hn => .str h hn
  | _, _, .nptr => .nptr
  | _, _, .ptr h => .ptr (hs.at_ _ _ h)
  | _, _, .nslice => .nslice
  | _, _, .slice h hc he ho hm => .slice (hs.at_ _ _ h) hc he (fun hx => by rw [hs.sz _ _ h]; exact ho hx) hm
  | _, _, .nmap => .nmap
  | _, _, .map h => .map (hs.at_ _ _ h)
  | _, _, .func h1 h2 => .func (h1.mono hs) (h2.mono hs)
  | _, _, .yield h => .yield (hs.at_ _ _ h)
  | _, _, .nfunc => .nfunc
  | _, _, .iface h => .iface (h.mono hs)
  | _, _, .niface => .niface
  | _, _, .agg h => .agg (h.mono hs)
  | _, _, .tuple h => .tuple (h.mono hs)
theorem VsRel.mono {σ σ' : Sig} (hs : Sig.le σ σ') : ∀ {l : List AV} {vs : List Value}, VsRel σ l vs → VsRel σ' l vs
  | _, _, .nil => .nil
  | _, _, .cons h t => .cons (h.mono hs) (t.mono hs)
end
theorem VsRel.length {σ : Sig} : ∀ {l : List AV} {vs : List Value}, VsRel σ l vs → l.length = vs.length
  | _, _, .nil => rfl
  | _, _, .cons _ t => by simp [t.length]
theorem VsRel.get {σ : Sig} : ∀ {l : List AV} {vs : List Value} (n : Nat) {a : AV}, VsRel σ l vs → l[n]? = some a → ∃ v, vs[n]? = some v ∧ VRel σ a v
  | _, _, _, _, .nil, h => by simp at h
  | _, _, 0, _, .cons h t, e => by simp at e; subst e; exact ⟨_, rfl, h⟩
  | _, _, n + 1, _, .cons h t, e => by simpa using t.get n (by simpa using e)
theorem VsRel.append {σ : Sig} : ∀ {l m : List AV} {vs us : List Value}, VsRel σ l vs → VsRel σ m us → VsRel σ (l ++ m) (vs ++ us)
  | _, _, _, _, .nil, h => h
  | _, _, _, _, .cons h t, h' => .cons h (t.append h')
theorem VsRel.take {σ : Sig} : ∀ {l : List AV} {vs : List Value} (n : Nat), VsRel σ l vs → VsRel σ (l.take n) (vs.take n)
  | _, _, 0, _ => by simpa using VsRel.nil
  | _, _, _ + 1, .nil => by simpa using VsRel.nil
  | _, _, n + 1, .cons h t => by simpa using VsRel.cons h (t.take n)
theorem VsRel.drop {σ : Sig} : ∀ {l : List AV} {vs : List Value} (n : Nat), VsRel σ l vs → VsRel σ (l.drop n) (vs.drop n)
  | _, _, 0, h => by simpa using h
  | _, _, _ + 1, .nil => by simpa using VsRel.nil
  | _, _, n + 1, .cons h t => by simpa using t.drop n
end Go.Abs
end
section
namespace Go.Abs
inductive Opd where
  | t (x : Ix)
  | c (v : AV)
inductive EqT where
  | int | bool | str | ptr | iface | sl | mp | fn
  | agg (l : List EqT)
inductive ROp where
  | mv (x : Opd)
  | bin (op : BinOp) (x y : Opd)
  | pick (c a b : Opd)
  | load (n : Option Nat) (a : Opd)
  | len (t : EqT) (x : Opd)
  | faddr (off : Nat) (x : Opd)
  | iaddr (sz : Nat) (x i : Opd)
  | iaddrA (len sz : Nat) (x i : Opd)
  | nilc (x : Opd)
  | idxS (x i : Opd)
  | un (op : UnOp) (x : Opd)
  | conv (k : IntKind) (x : Opd)
  | eq (g neg : Bool) (t : EqT) (x y : Opd)
  | build (zs : List AV) (parts : List (Nat × Nat × Opd))
  | extract (x : Opd) (i : Nat)
  | sliceS (x : Opd) (lo hi : Option Opd)
  | slice (sz : Nat) (x : Opd) (lo hi mx : Option Opd)
  | b2s (x : Opd)
  | upt (x : Opd)
  | tpt (u : TypeId) (sz : Nat) (x : Opd)
  | mkIface (t : TypeId) (x : Opd)
  | mkFunc (f : FuncId) (first cap : List Opd)
  | field (off : Nat) (n : Option Nat) (x : Opd)
  | idxA (len sz : Nat) (agg : Bool) (x i : Opd)
  | lookup (t : EqT) (zero : AV) (ok : Bool) (x k : Opd)
  | tassert (t : TypeId) (zero : AV) (ok : Bool) (x : Opd)
  | cap (x : Opd)
  | max (x y : Opd)
  | min (x y : Opd)
  | sliceData (x : Opd)
  | bad
inductive BOp where
  | new (e : TypeId) (zs : List AV)
  | box (e : TypeId) (x : Opd)
  | buildS (e : TypeId) (len : Nat) (zs : List AV) (parts : List (Nat × Nat × Opd))
  | mkMap
inductive EOp where
  | store (n : Nat) (a x : Opd)
  | mapSet (t : EqT) (m k x : Opd)
  | append (e : TypeId) (sz bytes : Nat) (x y : Opd)
  | appendZ (e : TypeId) (sz bytes : Nat) (zs : List AV) (x n : Opd)
  | s2b (e : TypeId) (x : Opd)
  | mkSlice (e : TypeId) (bytes : Nat) (zs : List AV) (len cap : Opd)
  | copy (sz : Nat) (x y : Opd)
  | clear (zs : List AV) (x : Opd)
  | ustring (e : TypeId) (x n : Opd)
  | rangeM (x : Opd)
  | next (x : Opd)
  | entry (x : Opd)
inductive AOp where
  | r (op : ROp)
  | b (op : BOp)
  | e (op : EOp)
  | call (f : FuncId) (args : List Opd)
  | callv (x : Opd) (args : List Opd)
  | defer (x : Opd) (args : List Opd)
inductive ADef where
  | call (f : FuncId) (args : List AV)
  | mark (b : Ix)
structure Item where
  dst : Option Ix
  guard : Option (Ix × Bool)
  op : AOp
structure DItem where
  num : Nat
  it : Item
  hi : Nat
  ab : List Nat
inductive ACode where
  | skip
  | reg (l : List Item)
  | draw (l : List DItem)
  | seq (a b : ACode)
  | cond (c : Opd) (a b : ACode)
  | block (id : Nat) (a : ACode)
  | loop (a : ACode)
  | exit (id : Nat)
  | ret
  | rangeF (f : Opd) (params : List Ix) (assign body : Code)
  | bad
inductive Res where
  | tmp (x : Ix)
  | cell (x : Ix) (n : Option Nat)
structure AFunc where
  ntmps : Nat
  results : List Res
  code : ACode
inductive AObj where
  | cells (t : T AV) (n : Nat) (e : TypeId) (clean : Bool)
  | map (es : List (AV × AV × Nat)) (clock : Nat)
  | miter (m : Option Ix) (since : Nat) (seen : List Nat) (stepped : Nat)
  | loop (st : LoopState) (pending : Option Code) (n : Nat) (tm : T AV) (params : List Ix) (assign body : Code) (defers : Ix)
  | dfr (some : Bool)
structure AW where
  heap : T AObj
  next : Ix
end Go.Abs
end
section
namespace Go.Abs
structure Ctx where
  P : Program
  ng : Nat
inductive EsRel (σ : Sig) : List (AV × AV × Nat) → List MapEntry → Prop
  | nil : EsRel σ [] []
  | cons {k v : AV} {b : Nat} {e : MapEntry} {l : List (AV × AV × Nat)} {es : List MapEntry} (hk : VRel σ k e.key) (hv : VRel σ v e.val) (hb : e.born = b)
      (t : EsRel σ l es) : EsRel σ ((k, v, b) :: l) (e :: es)
theorem EsRel.mono {σ σ' : Sig} (hs : Sig.le σ σ') : ∀ {l : List (AV × AV × Nat)} {es : List MapEntry}, EsRel σ l es → EsRel σ' l es
  | _, _, .nil => .nil
  | _, _, .cons hk hv hb t => .cons (hk.mono hs) (hv.mono hs) hb (t.mono hs)
def TRel (σ : Sig) (tm : T AV) (c : Array Value) : Prop := ∀ x v, tm.get x = some v → ∃ v', c[x.val]? = some v' ∧ VRel σ v v'
theorem TRel.mono {σ σ' : Sig} (hs : Sig.le σ σ') {tm : T AV} {c : Array Value} (h : TRel σ tm c) : TRel σ' tm c :=
  fun x v hx => let ⟨v', h1, h2⟩ := h x v hx; ⟨v', h1, h2.mono hs⟩
inductive ORel (X : Ctx) (σ : Sig) : AObj → Obj → Prop
  | cells {t : T AV} {n : Nat} {e : TypeId} {cl : Bool} {c : Array Value} {fr : Nat × Nat} (hn : n ≤ c.size) (hk : ∀ x v, t.get x = some v → x.val < n) (ht : TRel σ t c) (hcl : cl = true → fr = (0, 0)) :
      ORel X σ (.cells t n e cl) (.cells c e fr)
  | map {es : List (AV × AV × Nat)} {entries : Array MapEntry} {clock : Nat} (h : EsRel σ es entries.toList) : ORel X σ (.map es clock) (.map entries clock)
  | miterNone {since stepped : Nat} {seen : List Nat} {seen' : Array Nat} (hs : seen'.toList = seen) : ORel X σ (.miter none since seen stepped) (.mapIter none since seen' stepped)
  | miter {m : Ix} {c : Nat} {since stepped : Nat} {seen : List Nat} {seen' : Array Nat} (h : σ m = some c) (hs : seen'.toList = seen) :
      ORel X σ (.miter (some m) since seen stepped) (.mapIter (some c) since seen' stepped)
  | loop {st : LoopState} {pending : Option Code} {n : Nat} {tm : T AV} {params : List Ix} {assign body : Code} {defers : Ix} {l : Loop}
      (hst : l.state = st) (hp : l.pending = pending) (hn : n ≤ l.tmps.size) (ht : TRel σ tm l.tmps) (hpar : l.params.toList = params.map Ix.val) (hpl : ∀ x ∈ params, x.val < n)
      (ha : l.assign = assign) (hb : l.body = body) (hd : σ defers = some l.defers) :
      ORel X σ (.loop st pending n tm params assign body defers) (.loop l)
  | dfr {b : Bool} : ORel X σ (.dfr b) (.deferred (if b then some [] else none))
theorem ORel.mono {X : Ctx} {σ σ' : Sig} (hs : Sig.le σ σ') {o : AObj} {O : Obj} (h : ORel X σ o O) : ORel X σ' o O := by
  cases h with
  | cells hn hk ht hcl => exact .cells hn hk (ht.mono hs) hcl
  | map h => exact .map (h.mono hs)
  | miterNone h => exact .miterNone h
  | miter h hs' => exact .miter (hs.at_ _ _ h) hs'
  | loop hst hp hn ht hpar hpl ha hb hd => exact .loop hst hp hn (ht.mono hs) hpar hpl ha hb (hs.at_ _ _ hd)
  | dfr => exact .dfr
structure WRel (X : Ctx) (σ : Sig) (A : AW) (w : World) : Prop where
  live : ∀ a o, A.heap.get a = some o → ∃ c O, σ a = some c ∧ w.heap[c]? = some O ∧ ORel X σ o O
  size : ∀ a c cs e fr, σ a = some c → w.heap[c]? = some (.cells cs e fr) → σ.sz c = cs.size
  inj : ∀ a a' o o' c, A.heap.get a = some o → A.heap.get a' = some o' → σ a = some c → σ a' = some c → a = a'
  fresh : ∀ a : Ix, A.next.val ≤ a.val → σ a = none
  range : ∀ a c, σ a = some c → c < w.heap.size
  glob : ∀ g, g < X.ng → σ (ix g) = some g
def Owns (σ : Sig) (A : AW) (c : Nat) : Prop := ∃ a o, A.heap.get a = some o ∧ σ a = some c
structure Keeps (σ : Sig) (A : AW) (w : World) (σ' : Sig) (A' : AW) (w' : World) : Prop where
  size : w.heap.size ≤ w'.heap.size
  keep : ∀ c, c < w.heap.size → ¬ Owns σ A c → w'.heap[c]? = w.heap[c]?
  own : ∀ c, Owns σ' A' c → Owns σ A c ∨ w.heap.size ≤ c
  new : ∀ a c, σ a = none → σ' a = some c → Owns σ A c ∨ w.heap.size ≤ c
  low : ∀ a : Ix, a.val < A.next.val → σ' a = σ a
  next : A.next.val ≤ A'.next.val
  os : w'.os = w.os
  output : w'.output = w.output
  tape : w'.tape = w.tape
structure Ext (X : Ctx) (σ : Sig) (A : AW) (w : World) (σ' : Sig) (A' : AW) (w' : World) : Prop where
  le : Sig.le σ σ'
  rel : WRel X σ' A' w'
  keeps : Keeps σ A w σ' A' w'
theorem Keeps.refl (σ : Sig) (A : AW) (w : World) : Keeps σ A w σ A w :=
  ⟨Nat.le_refl _, fun _ _ _ => rfl, fun _ h => .inl h, fun a c h h' => by simp [h] at h', fun _ _ => rfl, Nat.le_refl _, rfl, rfl, rfl⟩
theorem Keeps.trans {σ₁ σ₂ σ₃ : Sig} {A₁ A₂ A₃ : AW} {w₁ w₂ w₃ : World} (h : Keeps σ₁ A₁ w₁ σ₂ A₂ w₂) (hle : Sig.le σ₂ σ₃) (h' : Keeps σ₂ A₂ w₂ σ₃ A₃ w₃) :
    Keeps σ₁ A₁ w₁ σ₃ A₃ w₃ where
  size := Nat.le_trans h.size h'.size
  keep c hc ho := by
    rw [h'.keep c (Nat.lt_of_lt_of_le hc h.size) (fun ho' => (h.own c ho').elim ho (fun hge => by omega)), h.keep c hc ho]
  own c ho := by
    rcases h'.own c ho with ho' | hge
    · exact h.own c ho'
    · exact .inr (Nat.le_trans h.size hge)
  new a c h1 h3 := by
    cases h2 : σ₂ a with
    | none =>
      rcases h'.new a c h2 h3 with ho | hge
      · exact h.own c ho
      · exact .inr (Nat.le_trans h.size hge)
    | some c' =>
      have : c' = c := by have := hle.at_ a c' h2; rw [h3] at this; exact (Option.some.inj this).symm
      subst this
      exact h.new a c' h1 h2
  low a ha := (h'.low a (Nat.lt_of_lt_of_le ha h.next)).trans (h.low a ha)
  next := Nat.le_trans h.next h'.next
  os := h'.os.trans h.os
  output := h'.output.trans h.output
  tape := h'.tape.trans h.tape
theorem Ext.refl {X : Ctx} {σ : Sig} {A : AW} {w : World} (h : WRel X σ A w) : Ext X σ A w σ A w := ⟨Sig.le_refl _, h, Keeps.refl _ _ _⟩
theorem Ext.trans {X : Ctx} {σ₁ σ₂ σ₃ : Sig} {A₁ A₂ A₃ : AW} {w₁ w₂ w₃ : World} (h : Ext X σ₁ A₁ w₁ σ₂ A₂ w₂) (h' : Ext X σ₂ A₂ w₂ σ₃ A₃ w₃) :
    Ext X σ₁ A₁ w₁ σ₃ A₃ w₃ := ⟨Sig.le_trans h.le h'.le, h'.rel, h.keeps.trans h'.le h'.keeps⟩
variable {X : Ctx} {σ : Sig} {A : AW} {w : World}
theorem WRel.same (h : WRel X σ A w) {w' : World} (hh : w'.heap = w.heap) : WRel X σ A w' :=
  ⟨fun a o ha => by rw [hh]; exact h.live a o ha, fun a c cs e fr hc => by rw [hh]; exact h.size a c cs e fr hc, h.inj, h.fresh, fun a c hc => by rw [hh]; exact h.range a c hc, h.glob⟩
theorem Ext.drawn (h : WRel X σ A w) (n : Nat) : Ext X σ A w σ A { w with drawn := n } :=
  ⟨Sig.le_refl _, h.same rfl, ⟨Nat.le_refl _, fun _ _ _ => rfl, fun _ h => .inl h, fun a c h h' => by simp [h] at h', fun _ _ => rfl, Nat.le_refl _, rfl, rfl, rfl⟩⟩
def Sig.put (σ : Sig) (a : Ix) (c s : Nat) : Sig := ⟨fun b => if b = a then some c else σ b, fun d => if d = c then s else σ.sz d⟩
theorem Sig.put_same (σ : Sig) (a : Ix) (c s : Nat) : σ.put a c s a = some c := by simp [Sig.put]
theorem Sig.put_ne (σ : Sig) {a b : Ix} (c s : Nat) (h : b ≠ a) : σ.put a c s b = σ b := by simp [Sig.put, h]
theorem Sig.put_sz (σ : Sig) (a : Ix) (c s : Nat) : (σ.put a c s).sz c = s := by simp [Sig.put]
theorem Sig.put_sz_ne (σ : Sig) (a : Ix) {c d : Nat} (s : Nat) (h : d ≠ c) : (σ.put a c s).sz d = σ.sz d := by simp [Sig.put, h]
theorem Sig.le_put {σ : Sig} {a : Ix} (c s : Nat) (h : σ a = none) (hs : ∀ b, σ b = some c → σ.sz c = s) : Sig.le σ (σ.put a c s) := by
  refine ⟨fun b d hb => ?_, fun b d hb => ?_⟩
  · by_cases hba : b = a
    · subst hba; simp [h] at hb
    · rw [Sig.put_ne σ c s hba]; exact hb
  · by_cases hd : d = c
    · subst hd; rw [Sig.put_sz, hs b hb]
    · rw [Sig.put_sz_ne σ a s hd]
def AW.new (A : AW) (o : AObj) : AW := ⟨T.set (some o) A.next A.heap, A.next.succ⟩
theorem WRel.next_none (h : WRel X σ A w) : σ A.next = none := h.fresh _ (Nat.le_refl _)
theorem WRel.heap_next (h : WRel X σ A w) : A.heap.get A.next = none := by
  cases hg : A.heap.get A.next with
  | none => rfl
  | some o => obtain ⟨c, O, hc, _⟩ := h.live _ _ hg; simp [h.next_none] at hc
def Obj.ncells : Obj → Nat
  | .cells cs _ _ => cs.size
  | _ => 0
theorem WRel.le_put (h : WRel X σ A w) (s : Nat) : Sig.le σ (σ.put A.next w.heap.size s) :=
  Sig.le_put _ _ h.next_none fun b hb => absurd (h.range b _ hb) (by omega)
theorem Ext.new (h : WRel X σ A w) {o : AObj} {O : Obj} (ho : ORel X (σ.put A.next w.heap.size (Obj.ncells O)) o O) :
    Ext X σ A w (σ.put A.next w.heap.size (Obj.ncells O)) (A.new o) { w with heap := w.heap.push O } := by
  have hle := h.le_put (Obj.ncells O)
  have hget : ∀ a o', (A.new o).heap.get a = some o' → (a = A.next ∧ o' = o) ∨ (a ≠ A.next ∧ A.heap.get a = some o') := by
    intro a o' ha
    simp only [AW.new, T.get_set] at ha
    by_cases hn : a = A.next
    · simp [hn] at ha; exact .inl ⟨hn, ha.symm⟩
    · simp [hn] at ha; exact .inr ⟨hn, ha⟩
  refine ⟨hle, ⟨?_, ?_, ?_, ?_, ?_, ?_⟩, ⟨?_, ?_, ?_, ?_, fun a ha => Sig.put_ne _ _ _ (fun e => by subst e; omega), ?_, rfl, rfl, rfl⟩⟩
  · intro a o' ha
    rcases hget a o' ha with ⟨rfl, rfl⟩ | ⟨hn, ha'⟩
    · exact ⟨w.heap.size, O, Sig.put_same _ _ _ _, by simp, ho⟩
    · obtain ⟨c, O', hc, hO, hr⟩ := h.live a o' ha'
      have hlt := h.range a c hc
      exact ⟨c, O', hle.at_ a c hc, by simp [Array.getElem?_push, Nat.ne_of_lt hlt, hO], hr.mono hle⟩
  · intro a c cs e fr hc hO
    by_cases hn : c = w.heap.size
    · subst hn
      rw [Sig.put_sz]
      simp at hO; subst hO; rfl
    · rw [Sig.put_sz_ne _ _ _ hn]
      have han : a ≠ A.next := fun e => by subst e; rw [Sig.put_same] at hc; exact hn (Option.some.inj hc).symm
      rw [Sig.put_ne _ _ _ han] at hc
      have hlt := h.range a c hc
      refine h.size a c cs e fr hc ?_
      simpa [Array.getElem?_push, hn] using hO
  · intro a a' o₁ o₂ c ha ha' hc hc'
    rcases hget a o₁ ha with ⟨rfl, _⟩ | ⟨hn, h1⟩ <;> rcases hget a' o₂ ha' with ⟨rfl, _⟩ | ⟨hn', h2⟩
    · rfl
    · rw [Sig.put_same] at hc
      rw [Sig.put_ne _ _ _ hn'] at hc'
      have := h.range _ _ hc'
      simp only [Option.some.injEq] at hc; omega
    · rw [Sig.put_same] at hc'
      rw [Sig.put_ne _ _ _ hn] at hc
      have := h.range _ _ hc
      simp only [Option.some.injEq] at hc'; omega
    · rw [Sig.put_ne _ _ _ hn] at hc
      rw [Sig.put_ne _ _ _ hn'] at hc'
      exact h.inj a a' o₁ o₂ c h1 h2 hc hc'
  · intro a ha
    have hv : A.next.succ.val = A.next.val + 1 := Ix.val_succ _
    simp only [AW.new] at ha
    have hne : a ≠ A.next := by intro e; subst e; omega
    rw [Sig.put_ne _ _ _ hne]
    exact h.fresh a (by omega)
  · intro a c hc
    by_cases hn : a = A.next
    · subst hn; rw [Sig.put_same] at hc; simp at hc; simp; omega
    · rw [Sig.put_ne _ _ _ hn] at hc; have := h.range a c hc; simp; omega
  · intro g hg; exact hle.at_ _ _ (h.glob g hg)
  · simp
  · intro c hc _; simp [Array.getElem?_push, Nat.ne_of_lt hc]
  · rintro c ⟨a, o', ha, hc⟩
    rcases hget a o' ha with ⟨rfl, _⟩ | ⟨hn, h1⟩
    · rw [Sig.put_same] at hc; simp at hc; exact .inr (by omega)
    · rw [Sig.put_ne _ _ _ hn] at hc; exact .inl ⟨a, o', h1, hc⟩
  · intro a c h1 h2
    by_cases hn : a = A.next
    · subst hn; rw [Sig.put_same] at h2; simp at h2; exact .inr (by omega)
    · rw [Sig.put_ne _ _ _ hn] at h2; simp [h1] at h2
  · have hv : A.next.succ.val = A.next.val + 1 := Ix.val_succ _
    simp only [AW.new]; omega
theorem Ext.change (h : WRel X σ A w) {a : Ix} {c : Nat} {o o' : AObj} {O' : Obj} {w' : World} (ha : A.heap.get a = some o) (hc : σ a = some c) (ho : ORel X σ o' O')
    (hh : ∀ d, w'.heap[d]? = if d = c then some O' else w.heap[d]?) (hz : ∀ cs e fr, O' = .cells cs e fr → σ.sz c = cs.size) (hs : w'.heap.size = w.heap.size) (h1 : w'.os = w.os) (h2 : w'.output = w.output) (h3 : w'.tape = w.tape) :
    Ext X σ A w σ ⟨T.set (some o') a A.heap, A.next⟩ w' := by
  have hget : ∀ b q, (T.set (some o') a A.heap).get b = some q → (b = a ∧ q = o') ∨ (b ≠ a ∧ A.heap.get b = some q) := by
    intro b q hb
    rw [T.get_set] at hb
    by_cases hn : b = a
    · simp [hn] at hb; exact .inl ⟨hn, hb.symm⟩
    · simp [hn] at hb; exact .inr ⟨hn, hb⟩
  refine ⟨Sig.le_refl _, ⟨?_, ?_, ?_, h.fresh, ?_, h.glob⟩, ⟨by omega, ?_, ?_, fun a c h h' => by simp [h] at h', fun _ _ => rfl, Nat.le_refl _, h1, h2, h3⟩⟩
  · intro b q hb
    rcases hget b q hb with ⟨rfl, rfl⟩ | ⟨hn, hb'⟩
    · exact ⟨c, O', hc, by simp [hh], ho⟩
    · obtain ⟨d, O, hd, hO, hr⟩ := h.live b q hb'
      have hdc : d ≠ c := fun e => hn (h.inj b a q o d hb' ha hd (e ▸ hc))
      exact ⟨d, O, hd, by simp [hh, hdc, hO], hr⟩
  · intro b d cs e fr hd hO
    rw [hh] at hO
    by_cases hdc : d = c
    · subst hdc; simp at hO; exact hz cs e fr hO
    · simp [hdc] at hO; exact h.size b d cs e fr hd hO
  · intro b b' q q' d hb hb' hd hd'
    have p : ∀ b q, (T.set (some o') a A.heap).get b = some q → ∃ q', A.heap.get b = some q' := by
      intro b q hb
      rcases hget b q hb with ⟨rfl, _⟩ | ⟨_, hb'⟩
      · exact ⟨o, ha⟩
      · exact ⟨q, hb'⟩
    obtain ⟨q₁, hq₁⟩ := p b q hb
    obtain ⟨q₂, hq₂⟩ := p b' q' hb'
    exact h.inj b b' q₁ q₂ d hq₁ hq₂ hd hd'
  · intro b d hd; rw [hs]; exact h.range b d hd
  · intro d hd ho'
    have : d ≠ c := fun e => ho' ⟨a, o, ha, e ▸ hc⟩
    simp [hh, this]
  · rintro d ⟨b, q, hb, hd⟩
    rcases hget b q hb with ⟨rfl, _⟩ | ⟨_, hb'⟩
    · exact .inl ⟨b, o, ha, hd⟩
    · exact .inl ⟨b, q, hb', hd⟩
theorem Ext.forget (h : WRel X σ A w) (a : Ix) : Ext X σ A w σ ⟨T.set none a A.heap, A.next⟩ w := by
  have hget : ∀ b q, (T.set none a A.heap).get b = some q → A.heap.get b = some q := by
    intro b q hb
    rw [T.get_set] at hb
    by_cases hn : b = a
    · simp [hn] at hb
    · simpa [hn] using hb
  exact ⟨Sig.le_refl _, ⟨fun b q hb => h.live b q (hget b q hb), h.size, fun b b' q q' d hb hb' => h.inj b b' q q' d (hget b q hb) (hget b' q' hb'), h.fresh, h.range, h.glob⟩,
    ⟨Nat.le_refl _, fun _ _ _ => rfl, fun d ⟨b, q, hb, hd⟩ => .inl ⟨b, q, hget b q hb, hd⟩, fun a c h h' => by simp [h] at h', fun _ _ => rfl, Nat.le_refl _, rfl, rfl, rfl⟩⟩
theorem Ext.rename (h : WRel X σ A w) {a : Ix} {c : Nat} {o o' : AObj} {O : Obj} (ha : A.heap.get a = some o) (hc : σ a = some c) (hO : w.heap[c]? = some O)
    (ho : ORel X (σ.put A.next c (σ.sz c)) o' O) :
    Ext X σ A w (σ.put A.next c (σ.sz c)) ⟨T.set (some o') A.next (T.set none a A.heap), A.next.succ⟩ w := by
  have hle : Sig.le σ (σ.put A.next c (σ.sz c)) := Sig.le_put _ _ h.next_none fun _ _ => rfl
  have hget : ∀ b q, (T.set (some o') A.next (T.set none a A.heap)).get b = some q → (b = A.next ∧ q = o') ∨ (b ≠ A.next ∧ b ≠ a ∧ A.heap.get b = some q) := by
    intro b q hb
    rw [T.get_set, T.get_set] at hb
    by_cases hn : b = A.next
    · simp [hn] at hb; exact .inl ⟨hn, hb.symm⟩
    · by_cases hn' : b = a
      · simp [hn, hn'] at hb; simp [← hn', hn] at hb
      · simp [hn, hn'] at hb; exact .inr ⟨hn, hn', hb⟩
  refine ⟨hle, ⟨?_, ?_, ?_, ?_, ?_, fun g hg => hle.at_ _ _ (h.glob g hg)⟩, ⟨Nat.le_refl _, fun _ _ _ => rfl, ?_, ?_, fun a ha => Sig.put_ne _ _ _ (fun e => by subst e; omega), ?_, rfl, rfl, rfl⟩⟩
  · intro b q hb
    rcases hget b q hb with ⟨rfl, rfl⟩ | ⟨hn, _, hb'⟩
    · exact ⟨c, O, Sig.put_same _ _ _ _, hO, ho⟩
    · obtain ⟨d, O', hd, hO', hr⟩ := h.live b q hb'
      exact ⟨d, O', hle.at_ _ _ hd, hO', hr.mono hle⟩
  · intro b d cs e fr hd hO'
    have hsz : ∀ d, (σ.put A.next c (σ.sz c)).sz d = σ.sz d := fun d => by
      by_cases hdc : d = c
      · subst hdc; exact Sig.put_sz _ _ _ _
      · exact Sig.put_sz_ne _ _ _ hdc
    rw [hsz]
    by_cases hn : b = A.next
    · subst hn; rw [Sig.put_same] at hd; simp at hd; subst hd; exact h.size a _ cs e fr hc hO'
    · rw [Sig.put_ne _ _ _ hn] at hd; exact h.size b d cs e fr hd hO'
  · intro b b' q q' d hb hb' hd hd'
    rcases hget b q hb with ⟨rfl, _⟩ | ⟨hn, hna, h1⟩ <;> rcases hget b' q' hb' with ⟨rfl, _⟩ | ⟨hn', hna', h2⟩
    · rfl
    · rw [Sig.put_same] at hd
      rw [Sig.put_ne _ _ _ hn'] at hd'
      exact absurd (h.inj b' a q' o d h2 ha hd' (by simpa [Option.some.inj hd] using hc)) hna'
    · rw [Sig.put_same] at hd'
      rw [Sig.put_ne _ _ _ hn] at hd
      exact absurd (h.inj b a q o d h1 ha hd (by simpa [Option.some.inj hd'] using hc)) hna
    · rw [Sig.put_ne _ _ _ hn] at hd
      rw [Sig.put_ne _ _ _ hn'] at hd'
      exact h.inj b b' q q' d h1 h2 hd hd'
  · intro b hb
    have hv : A.next.succ.val = A.next.val + 1 := Ix.val_succ _
    simp only at hb
    have hne : b ≠ A.next := by intro e; subst e; omega
    rw [Sig.put_ne _ _ _ hne]
    exact h.fresh b (by omega)
  · intro b d hd
    by_cases hn : b = A.next
    · subst hn; rw [Sig.put_same] at hd; simp at hd; subst hd; exact h.range a _ hc
    · rw [Sig.put_ne _ _ _ hn] at hd; exact h.range b d hd
  · rintro d ⟨b, q, hb, hd⟩
    rcases hget b q hb with ⟨rfl, _⟩ | ⟨hn, _, hb'⟩
    · rw [Sig.put_same] at hd; simp at hd; subst hd; exact .inl ⟨a, o, ha, hc⟩
    · rw [Sig.put_ne _ _ _ hn] at hd; exact .inl ⟨b, q, hb', hd⟩
  · intro b d h1 h2
    by_cases hn : b = A.next
    · subst hn; rw [Sig.put_same] at h2; simp at h2; subst h2; exact .inl ⟨a, o, ha, hc⟩
    · rw [Sig.put_ne _ _ _ hn] at h2; simp [h1] at h2
  · have hv : A.next.succ.val = A.next.val + 1 := Ix.val_succ _
    simp only; omega
end Go.Abs
end
section
namespace Go.Abs
def Pur (P : Program) (σ : Sig) (s : Sem Value) (v : AV) : Prop := ∃ v', VRel σ v v' ∧ ∀ w, s.run P w = .ok v' w
section
variable {β : Type}
def natK (n : Nat) (k : Nat → β) : β := match n with
  | 0 => k 0
  | m + 1 => k (Nat.succ m)
@[simp] theorem natK_eq (n : Nat) (k : Nat → β) : natK n k = k n := by cases n <;> rfl
def intK (n : Int) (k : Int → β) : β := match n with
  | .ofNat m => natK m fun m => k (.ofNat m)
  | .negSucc m => natK m fun m => k (.negSucc m)
@[simp] theorem intK_eq (n : Int) (k : Int → β) : intK n k = k n := by cases n <;> simp [intK]
def boolK (b : Bool) (k : Bool → β) : β := match b with
  | true => k true
  | false => k false
@[simp] theorem boolK_eq (b : Bool) (k : Bool → β) : boolK b k = k b := by cases b <;> rfl
end
theorem blt_decide (a b : Nat) : Nat.blt a b = decide (a < b) := by
  by_cases h : a < b
  · simp [h, Nat.blt, Nat.ble_eq, Nat.succ_le_of_lt h]
  · have : ¬ (a + 1 ≤ b) := h
    simp only [h, decide_false]
    cases hb : Nat.blt a b
    · rfl
    · exact absurd (Nat.le_of_ble_eq_true hb) this
theorem beq_decide (a b : Nat) : Nat.beq a b = decide (a = b) := by
  by_cases h : a = b
  · subst h; simp
  · simp only [h, decide_false]
    cases hb : Nat.beq a b
    · rfl
    · exact absurd (Nat.eq_of_beq_eq_true hb) h
def ilt : Int → Int → Bool
  | .ofNat a, .ofNat b => Nat.blt a b
  | .ofNat _, .negSucc _ => false
  | .negSucc _, .ofNat _ => true
  | .negSucc a, .negSucc b => Nat.blt b a
theorem Int.beq_eq_decide (a b : Int) : (a == b) = decide (a = b) := by
  by_cases h : a = b <;> simp [h]
theorem ilt_eq (a b : Int) : ilt a b = decide (a < b) := by
  cases a with
  | ofNat a => cases b with
    | ofNat b => simp [ilt, blt_decide]
    | negSucc b => simp [ilt]; omega
  | negSucc a => cases b with
    | ofNat b => simp [ilt]; omega
    | negSucc b => simp [ilt, blt_decide]; omega
def ieq : Int → Int → Bool
  | .ofNat a, .ofNat b => Nat.beq a b
  | .negSucc a, .negSucc b => Nat.beq a b
  | _, _ => false
theorem ieq_eq (a b : Int) : ieq a b = decide (a = b) := by
  cases a with
  | ofNat a => cases b with
    | ofNat b => simp only [ieq, beq_decide]; congr 1; simp; omega
    | negSucc b => simp [ieq]
  | negSucc a => cases b with
    | ofNat b => simp [ieq]
    | negSucc b => simp only [ieq, beq_decide]; congr 1; simp
def fw (k : IntKind) (n : Int) : Int := match k with
  | .i64 => (match n with
    | .ofNat m => if Nat.blt m 9223372036854775808 then .ofNat m else k.wrap n
    | .negSucc m => if Nat.blt m 9223372036854775808 then .negSucc m else k.wrap n)
  | .u8 => (match n with
    | .ofNat m => if Nat.blt m 256 then .ofNat m else k.wrap n
    | _ => k.wrap n)
  | _ => k.wrap n
theorem fw_eq (k : IntKind) (n : Int) : fw k n = k.wrap n := by
  cases k <;> simp only [fw]
  · cases n with
    | ofNat m =>
      simp only []
      split
      · rename_i h
        have : m < 9223372036854775808 := by simpa [blt_decide] using h
        rw [IntWalk.i64_in _ (by constructor <;> simp <;> omega)]
      · rfl
    | negSucc m =>
      simp only []
      split
      · rename_i h
        have : m < 9223372036854775808 := by simpa [blt_decide] using h
        rw [IntWalk.i64_in _ (by constructor <;> omega)]
      · rfl
  · cases n with
    | ofNat m =>
      simp only []
      split
      · rename_i h
        have : m < 256 := by simpa [blt_decide] using h
        rw [IntWalk.u8_in _ (by constructor <;> simp <;> omega)]
      · rfl
    | negSucc m => rfl
def toU (b : Nat) : Int → Nat
  | .ofNat m => m % 2 ^ b
  | .negSucc m => 2 ^ b - 1 - m % 2 ^ b
theorem toU_eq (b : Nat) (n : Int) : toU b n = (BitVec.ofInt b n).toNat := by
  cases n with
  | ofNat m => simp [toU, BitVec.toNat_ofInt]
  | negSucc m =>
    simp only [toU, BitVec.toNat_ofInt]
    have hp : (0 : Nat) < 2 ^ b := Nat.two_pow_pos b
    rw [Int.negSucc_emod _ (by exact_mod_cast hp)]
    have := Nat.mod_lt m hp
    omega
def bitK {β : Type} (f : Nat → Nat → Nat) (k : IntKind) (x y : Int) (κ : Int → β) : β :=
  natK (f (toU k.bits x) (toU k.bits y)) fun r => intK (fw k (.ofNat r)) κ
def bitFn : BinOp → Option (Nat → Nat → Nat)
  | .and => some Nat.land
  | .or => some Nat.lor
  | .xor => some Nat.xor
  | _ => none
theorem intBits_ok (P : Program) (w : World) (op : BinOp) (f : Nat → Nat → Nat) (hf : bitFn op = some f) (k : IntKind) (x y : Int) :
    (Op.intBits op k x y).run P w = .ok (.int k (k.wrap (Int.ofNat (f (toU k.bits x) (toU k.bits y))))) w := by
  cases op <;> simp [bitFn] at hf <;> subst hf <;> simp only [Op.intBits, Sem.run_pure, toU_eq] <;>
    simp [BitVec.toNat_and, BitVec.toNat_or, BitVec.toNat_xor] <;> rfl
section
variable {α : Type}
def intBinK (op : BinOp) (k : IntKind) (x y : Int) (κ : AV → Option α) : Option α :=
  match op with
  | .add => intK (fw k (Int.add x y)) fun r => κ (.int k r)
  | .sub => intK (fw k (Int.sub x y)) fun r => κ (.int k r)
  | .mul => intK (fw k (Int.mul x y)) fun r => κ (.int k r)
  | .lss => boolK (ilt x y) fun b => κ (.bool b)
  | .gtr => boolK (ilt y x) fun b => κ (.bool b)
  | .leq => boolK (!ilt y x) fun b => κ (.bool b)
  | .geq => boolK (!ilt x y) fun b => κ (.bool b)
  | .eql => boolK (ieq x y) fun b => κ (.bool b)
  | .neq => boolK (!ieq x y) fun b => κ (.bool b)
  | .quo => if ieq y 0 then none else intK (fw k (Int.tdiv x y)) fun r => κ (.int k r)
  | .rem => if ieq y 0 then none else intK (Int.tmod x y) fun r => κ (.int k r)
  | op => match bitFn op with
    | some f => bitK f k x y fun r => κ (.int k r)
    | none => none
theorem intBinK_ok {op : BinOp} {k : IntKind} {x y : Int} {κ : AV → Option α} {r : α} (h : intBinK op k x y κ = some r) :
    ∃ v, κ v = some r ∧ ∀ P σ t, Pur P σ (binOp op t (.int k x) (.int k y)) v := by
  cases op
  case add => simp only [intBinK, intK_eq] at h; exact ⟨_, h, fun P σ t => ⟨_, .int k _, fun w => by simp [binOp, Op.intArith, fw_eq]⟩⟩
  case sub => simp only [intBinK, intK_eq] at h; exact ⟨_, h, fun P σ t => ⟨_, .int k _, fun w => by simp [binOp, Op.intArith, fw_eq]; rfl⟩⟩
  case mul => simp only [intBinK, intK_eq] at h; exact ⟨_, h, fun P σ t => ⟨_, .int k _, fun w => by simp [binOp, Op.intArith, fw_eq]⟩⟩
  case quo =>
    simp only [intBinK] at h
    split at h
    · cases h
    · rename_i hy
      simp only [ieq_eq, decide_eq_true_eq] at hy
      simp only [intK_eq] at h
      exact ⟨_, h, fun P σ t => ⟨_, .int k _, fun w => by simp [binOp, Op.intDiv, fw_eq, hy]⟩⟩
  case rem =>
    simp only [intBinK] at h
    split at h
    · cases h
    · rename_i hy
      simp only [ieq_eq, decide_eq_true_eq] at hy
      simp only [intK_eq] at h
      exact ⟨_, h, fun P σ t => ⟨_, .int k _, fun w => by simp [binOp, Op.intDiv, hy]⟩⟩
  case and => simp only [intBinK, bitFn, bitK, natK_eq, intK_eq] at h; exact ⟨_, h, fun P σ t => ⟨_, .int k _, fun w => by simp [binOp, intBits_ok P w .and _ rfl, fw_eq]⟩⟩
  case or => simp only [intBinK, bitFn, bitK, natK_eq, intK_eq] at h; exact ⟨_, h, fun P σ t => ⟨_, .int k _, fun w => by simp [binOp, intBits_ok P w .or _ rfl, fw_eq]⟩⟩
  case xor => simp only [intBinK, bitFn, bitK, natK_eq, intK_eq] at h; exact ⟨_, h, fun P σ t => ⟨_, .int k _, fun w => by simp [binOp, intBits_ok P w .xor _ rfl, fw_eq]⟩⟩
  case shl => simp [intBinK, bitFn] at h
  case shr => simp [intBinK, bitFn] at h
  case andNot => simp [intBinK, bitFn] at h
  case eql => simp only [intBinK, boolK_eq] at h; exact ⟨_, h, fun P σ t => ⟨_, .bool _, fun w => by simp [binOp, Op.intCmp, ieq_eq, Int.beq_eq_decide]⟩⟩
  case neq => simp only [intBinK, boolK_eq] at h; exact ⟨_, h, fun P σ t => ⟨_, .bool _, fun w => by simp [binOp, Op.intCmp, ieq_eq, bne, Int.beq_eq_decide]⟩⟩
  case lss => simp only [intBinK, boolK_eq] at h; exact ⟨_, h, fun P σ t => ⟨_, .bool _, fun w => by simp [binOp, Op.intCmp, ilt_eq]⟩⟩
  case leq => simp only [intBinK, boolK_eq] at h; exact ⟨_, h, fun P σ t => ⟨_, .bool _, fun w => by simp [binOp, Op.intCmp, ilt_eq, ← decide_not, Int.not_lt]⟩⟩
  case gtr => simp only [intBinK, boolK_eq] at h; exact ⟨_, h, fun P σ t => ⟨_, .bool _, fun w => by simp [binOp, Op.intCmp, ilt_eq]⟩⟩
  case geq => simp only [intBinK, boolK_eq] at h; exact ⟨_, h, fun P σ t => ⟨_, .bool _, fun w => by simp [binOp, Op.intCmp, ilt_eq, ← decide_not, Int.not_lt]⟩⟩
def shiftK (op : BinOp) (k : IntKind) (x y : Int) (κ : AV → Option α) : Option α :=
  match op, x, y with
  | .shl, .ofNat x, .ofNat y => intK (fw k (.ofNat (x * 2 ^ (min y k.bits)))) fun r => κ (.int k r)
  | .shr, .ofNat x, .ofNat y => natK (x / 2 ^ (min y k.bits)) fun r => κ (.int k (.ofNat r))
  | _, _, _ => none
theorem shiftK_ok {op : BinOp} {k k' : IntKind} {x y : Int} {κ : AV → Option α} {r : α} (h : shiftK op k x y κ = some r) :
    ∃ v, κ v = some r ∧ ∀ P σ t, Pur P σ (binOp op t (.int k x) (.int k' y)) v := by
  unfold shiftK at h
  split at h
  · simp only [intK_eq] at h
    refine ⟨_, h, fun P σ t => ⟨_, .int k _, fun w => ?_⟩⟩
    rename_i x y
    have : ¬ ((y : Int) < 0) := by omega
    simp [binOp, Op.shift, fw_eq, this]
  · simp only [natK_eq] at h
    refine ⟨_, h, fun P σ t => ⟨_, .int k _, fun w => ?_⟩⟩
    rename_i x y
    have : ¬ ((y : Int) < 0) := by omega
    simp only [binOp, Op.shift]
    have h2 : Int.fdiv (Int.ofNat x) (2 ^ (min (Int.ofNat y).toNat k.bits)) = Int.ofNat (x / 2 ^ (min y k.bits)) := by
      show Int.fdiv (x : Int) (2 ^ (min y k.bits)) = ((x / 2 ^ (min y k.bits) : Nat) : Int)
      rw [Int.fdiv_eq_ediv_of_nonneg _ (Int.pow_nonneg (by decide))]
      simp
    rw [h2]
    simp [this]
  · cases h
end
def leq : List Nat → List Nat → Bool
  | [], [] => true
  | a :: x, b :: y => match Nat.beq a b with
    | true => leq x y
    | false => false
  | _, _ => false
theorem leq_eq : ∀ (x y : List Nat), leq x y = decide (x = y)
  | [], [] => by simp [leq]
  | [], _ :: _ => by simp [leq]
  | _ :: _, [] => by simp [leq]
  | a :: x, b :: y => by
    simp only [leq]
    cases h : Nat.beq a b
    · have : a ≠ b := by intro e; subst e; simp at h
      simp [this]
    · have : a = b := Nat.eq_of_beq_eq_true h
      subst this
      simp [leq_eq x y]
def llt : List Nat → List Nat → Bool
  | _, [] => false
  | [], _ :: _ => true
  | a :: x, b :: y => match Nat.blt a b with
    | true => true
    | false => (match Nat.beq a b with
      | true => llt x y
      | false => false)
theorem llt_eq : ∀ (x y : List UInt8), llt (x.map UInt8.toNat) (y.map UInt8.toNat) = Op.bytesLess x y
  | [], [] => rfl
  | [], _ :: _ => rfl
  | _ :: _, [] => rfl
  | a :: x, b :: y => by
    simp only [List.map, llt, Op.bytesLess]
    have h1 : (a < b) = (a.toNat < b.toNat) := rfl
    cases h : Nat.blt a.toNat b.toNat
    · have hn : ¬ a.toNat < b.toNat := by intro hlt; rw [blt_decide] at h; simp [hlt] at h
      cases h2 : Nat.beq a.toNat b.toNat
      · have hne : a ≠ b := by intro e; subst e; simp at h2
        simp [h1, hn, hne]
      · have he : a = b := UInt8.toNat_inj.mp (Nat.eq_of_beq_eq_true h2)
        subst he
        simp [llt_eq x y]
    · have hlt : a.toNat < b.toNat := by rw [blt_decide] at h; simpa using h
      simp [h1, hlt]
def listK {β γ : Type} : List γ → (List γ → β) → β
  | [], k => k []
  | a :: l, k => listK l fun l => k (a :: l)
@[simp] theorem listK_eq {β γ : Type} : ∀ (l : List γ) (k : List γ → β), listK l k = k l
  | [], k => rfl
  | a :: l, k => by simp [listK, listK_eq l]
theorem strBytes_length (s : ByteArray) : (strBytes s).length = s.size := by simp [strBytes]
theorem strBytes_inj {s t : ByteArray} (h : strBytes s = strBytes t) : s = t := by
  have : s.data.toList = t.data.toList := by
    have := congrArg (List.map UInt8.ofNat) h
    simpa [strBytes, Function.comp_def] using this
  cases s; cases t; simp at this; simp [this]
theorem strBytes_append (s t : ByteArray) : strBytes (s ++ t) = strBytes s ++ strBytes t := by
  simp [strBytes]
section
variable {α : Type}
def strBinK (op : BinOp) (n : Nat) (x : List Nat) (m : Nat) (y : List Nat) (κ : AV → Option α) : Option α :=
  match op with
  | .add => natK (n + m) fun nm => if Nat.ble nm 9223372036854775807 then listK (x ++ y) fun l => κ (.str nm l) else none
  | .eql => boolK (leq x y) fun b => κ (.bool b)
  | .neq => boolK (!leq x y) fun b => κ (.bool b)
  | .lss => boolK (llt x y) fun b => κ (.bool b)
  | .leq => boolK (llt x y || leq x y) fun b => κ (.bool b)
  | .gtr => boolK (!(llt x y || leq x y)) fun b => κ (.bool b)
  | .geq => boolK (!llt x y) fun b => κ (.bool b)
  | _ => none
theorem strEq (s t : ByteArray) : (s.toList == t.toList) = leq (strBytes s) (strBytes t) := by
  rw [leq_eq, ByteArray.toList_eq, ByteArray.toList_eq]
  by_cases h : s = t
  · subst h; simp
  · have : strBytes s ≠ strBytes t := fun e => h (strBytes_inj e)
    simp only [this, decide_false]
    have : s.data.toList ≠ t.data.toList := fun e => this (by simp [strBytes, e])
    simpa using this
theorem strLt (s t : ByteArray) : Op.bytesLess s.toList t.toList = llt (strBytes s) (strBytes t) := by
  rw [ByteArray.toList_eq, ByteArray.toList_eq, strBytes, strBytes, llt_eq]
theorem strBinK_ok {op : BinOp} {n m : Nat} {x y : List Nat} {κ : AV → Option α} {r : α} (h : strBinK op n x m y κ = some r) :
    ∃ v, κ v = some r ∧ ∀ P σ t s s', strBytes s = x → s.size = n → strBytes s' = y → s'.size = m → Pur P σ (binOp op t (.string s) (.string s')) v := by
  cases op <;> simp only [strBinK, boolK_eq, natK_eq, listK_eq] at h <;> (try (cases h; done))
  case add =>
    split at h
    · rename_i hle
      refine ⟨_, h, fun P σ t s s' hx hn hy hm => ⟨.string (s ++ s'), .str ?_ ?_, fun w => ?_⟩⟩
      · rw [strBytes_append, hx, hy]
      · simp [hn, hm]
      · have : ¬ ((s.size + s'.size : Nat) : Int) > IntKind.i64.max := by
          rw [hn, hm]
          have h1 : n + m ≤ 9223372036854775807 := Nat.le_of_ble_eq_true hle
          have h2 : IntKind.i64.max = 9223372036854775807 := by decide
          rw [h2]; omega
        simp only [binOp, Op.stringOp, if_neg this, Sem.run_pure]
    · cases h
  all_goals
    refine ⟨_, h, fun P σ t s s' hx hn hy hm => ⟨_, .bool _, fun w => ?_⟩⟩
    subst hx hy
    simp [binOp, Op.stringOp, strEq, strLt]
def geBinK (op : BinOp) (lo y : Int) (κ : AV → Option α) : Option α :=
  match op with
  | .sub => if ilt y 0 then none else intK (Int.sub lo y) fun r => if ilt r 0 then none else κ (.ge r)
  | .lss => if ilt lo y then none else κ (.bool false)
  | .geq => if ilt lo y then none else κ (.bool true)
  | .gtr => if ilt y lo then κ (.bool true) else none
  | .leq => if ilt y lo then κ (.bool false) else none
  | _ => none
theorem geBinK_ok {op : BinOp} {lo y : Int} {κ : AV → Option α} {r : α} (h : geBinK op lo y κ = some r) :
    ∃ v, κ v = some r ∧ ∀ P σ t n, lo ≤ n → n < 9223372036854775808 → Pur P σ (binOp op t (.int .i64 n) (.int .i64 y)) v := by
  cases op <;> simp only [geBinK] at h <;> (try (cases h; done))
  case sub =>
    split at h
    · cases h
    · rename_i hy
      simp only [intK_eq] at h
      split at h
      · cases h
      · rename_i hr
        simp only [ilt_eq, decide_eq_true_eq] at hy hr
        have hr' : ¬ (lo - y < 0) := hr
        refine ⟨_, h, fun P σ t n hl hn => ⟨.int .i64 (n - y), .ge ?_ ?_, fun w => ?_⟩⟩
        · show lo - y ≤ n - y; omega
        · omega
        · simp only [binOp, Op.intArith]
          rw [IntWalk.i64_in _ (by omega)]; simp
  all_goals
    split at h
    all_goals first
      | (cases h; done)
      | (rename_i hy
         simp only [ilt_eq, decide_eq_true_eq] at hy
         refine ⟨_, h, fun P σ t n hl hn => ⟨_, .bool _, fun w => ?_⟩⟩
         simp [binOp, Op.intCmp]; omega)
def binK (op : BinOp) (a b : AV) (κ : AV → Option α) : Option α :=
  match a, b with
  | .int k x, .int k' y => (match op with
    | .shl | .shr => shiftK op k x y κ
    | _ => if k = k' then intBinK op k x y κ else none)
  | .str n x, .str m y => strBinK op n x m y κ
  | .ge lo, .int .i64 y => geBinK op lo y κ
  | _, _ => none
theorem binK_ok {op : BinOp} {a b : AV} {κ : AV → Option α} {r : α} (h : binK op a b κ = some r) :
    ∃ v, κ v = some r ∧ ∀ P σ t va vb, VRel σ a va → VRel σ b vb → Pur P σ (binOp op t va vb) v := by
  unfold binK at h
  split at h
  · split at h
    · obtain ⟨v, hk, hv⟩ := shiftK_ok h; exact ⟨v, hk, fun P σ t va vb ha hb => by cases ha; cases hb; exact hv P σ t⟩
    · obtain ⟨v, hk, hv⟩ := shiftK_ok h; exact ⟨v, hk, fun P σ t va vb ha hb => by cases ha; cases hb; exact hv P σ t⟩
    · split at h
      · rename_i hkk; subst hkk
        obtain ⟨v, hk, hv⟩ := intBinK_ok h; exact ⟨v, hk, fun P σ t va vb ha hb => by cases ha; cases hb; exact hv P σ t⟩
      · cases h
  · obtain ⟨v, hk, hv⟩ := strBinK_ok h; exact ⟨v, hk, fun P σ t va vb ha hb => by cases ha with | str h1 h2 => cases hb with | str h3 h4 => exact hv P σ t _ _ h1 h2 h3 h4⟩
  · obtain ⟨v, hk, hv⟩ := geBinK_ok h; exact ⟨v, hk, fun P σ t va vb ha hb => by cases ha with | ge h1 h2 => cases hb; exact hv P σ t _ h1 h2⟩
  · cases h
end
end Go.Abs
end
section
namespace Go.Abs
variable {X : Ctx} {σ : Sig} {A : AW} {w : World} {α : Type}
def Rd (X : Ctx) (σ : Sig) (w : World) (s : Sem Value) (v : AV) : Prop := ∃ v', VRel σ v v' ∧ s.run X.P w = .ok v' w
def Gives (X : Ctx) (σ : Sig) (A : AW) (w : World) (s : Sem Value) (v : AV) (A' : AW) : Prop :=
  ∃ σ' w' v', s.run X.P w = .ok v' w' ∧ Go.Abs.Ext X σ A w σ' A' w' ∧ VRel σ' v v'
def GivesU (X : Ctx) (σ : Sig) (A : AW) (w : World) (s : Sem Unit) (A' : AW) : Prop :=
  ∃ σ' w', s.run X.P w = .ok () w' ∧ Go.Abs.Ext X σ A w σ' A' w'
theorem Pur.rd {s : Sem Value} {v : AV} (h : Pur X.P σ s v) (w : World) : Rd X σ w s v := let ⟨v', h1, h2⟩ := h; ⟨v', h1, h2 w⟩
theorem Rd.gives {s : Sem Value} {v : AV} (h : Rd X σ w s v) (hw : WRel X σ A w) : Gives X σ A w s v A :=
  let ⟨v', h1, h2⟩ := h; ⟨σ, w, v', h2, Ext.refl hw, h1⟩
def gatherK (t : T AV) : Nat → Nat → (List AV → Option α) → Option α
  | _, 0, k => k []
  | o, n + 1, k => match T.get t (ix o) with
    | some v => gatherK t (Nat.succ o) n fun l => k (v :: l)
    | none => none
theorem gatherK_ok {t : T AV} : ∀ {n o : Nat} {k : List AV → Option α} {r : α}, gatherK t o n k = some r →
    ∃ l, k l = some r ∧ l.length = n ∧ ∀ j, j < n → T.get t (ix (o + j)) = l[j]?
  | 0, o, k, r, h => ⟨[], h, rfl, fun j hj => absurd hj (Nat.not_lt_zero _)⟩
  | n + 1, o, k, r, h => by
    simp only [gatherK] at h
    split at h
    · rename_i v hv
      obtain ⟨l, hk, hl, hg⟩ := gatherK_ok h
      refine ⟨v :: l, hk, by simp [hl], fun j hj => ?_⟩
      cases j with
      | zero => simpa using hv
      | succ j =>
        have := hg j (by omega)
        simp only [List.getElem?_cons_succ]
        rw [← this]; congr 2; omega
    · cases h
def setRowK {β : Type} : T AV → Nat → List AV → (T AV → β) → β
  | t, _, [], k => k t
  | t, o, v :: l, k => T.setK (some v) (ix o) t fun t => setRowK t (Nat.succ o) l k
def setRow : T AV → Nat → List AV → T AV
  | t, _, [] => t
  | t, o, v :: l => setRow (T.set (some v) (ix o) t) (o + 1) l
@[simp] theorem setRowK_eq {β : Type} : ∀ (l : List AV) (t : T AV) (o : Nat) (k : T AV → β), setRowK t o l k = k (setRow t o l)
  | [], t, o, k => rfl
  | v :: l, t, o, k => by simp only [setRowK, setRow, T.setK_eq]; exact setRowK_eq l _ _ k
theorem setRow_get : ∀ (l : List AV) (t : T AV) (o : Nat) (x : Ix),
    (setRow t o l).get x = if o ≤ x.val ∧ x.val < o + l.length then l[x.val - o]? else t.get x
  | [], t, o, x => by
    have : ¬ (o ≤ x.val ∧ x.val < o + 0) := by omega
    simp [setRow]; omega
  | v :: l, t, o, x => by
    simp only [setRow]
    rw [setRow_get l, T.get_set]
    by_cases h1 : x = ix o
    · subst h1
      have h2 : ¬ (o + 1 ≤ (ix o).val ∧ (ix o).val < o + 1 + l.length) := by simp; omega
      rw [if_neg h2]
      simp
    · have hne : x.val ≠ o := fun e => h1 (Ix.val_inj (by rw [e, ix_val]))
      by_cases h2 : o + 1 ≤ x.val ∧ x.val < o + 1 + l.length
      · have h3 : o ≤ x.val ∧ x.val < o + (v :: l).length := by simp; omega
        rw [if_pos h2, if_pos h3]
        obtain ⟨d, hd⟩ : ∃ d, x.val - o = d + 1 := ⟨x.val - o - 1, by omega⟩
        have : x.val - (o + 1) = d := by omega
        rw [hd, this]; rfl
      · have h3 : ¬ (o ≤ x.val ∧ x.val < o + (v :: l).length) := by simp; omega
        rw [if_neg h2, if_neg h3, if_neg h1]
theorem TRel.setRow {t : T AV} {c c' : Array Value} {o : Nat} {l : List AV} {vs : List Value} (h : TRel σ t c) (hl : VsRel σ l vs)
    (hc : ∀ j, c'[j]? = if o ≤ j ∧ j < o + vs.length then vs[j - o]? else c[j]?) : TRel σ (setRow t o l) c' := by
  intro x v hx
  rw [setRow_get] at hx
  rw [hc, ← hl.length]
  split at hx
  · rename_i hin
    rw [if_pos hin]
    exact hl.get _ hx
  · rename_i hin
    rw [if_neg hin]
    exact h x v hx
theorem TRel.nil (c : Array Value) : TRel σ .nil c := fun x v h => by simp at h
theorem TRel.ofList {l : List AV} {vs : List Value} (hl : VsRel σ l vs) : TRel σ (Go.Abs.setRow .nil 0 l) vs.toArray :=
  (TRel.nil #[]).setRow hl fun j => by
    by_cases hj : j < vs.length
    · simp [hj]
    · simp [hj, List.getElem?_eq_none (Nat.le_of_not_lt hj)]
theorem ofList_lt {l : List AV} {x : Ix} {v : AV} (h : (Go.Abs.setRow .nil 0 l).get x = some v) : x.val < l.length := by
  rw [setRow_get] at h
  split at h
  · omega
  · simp at h
theorem TRel.more {t : T AV} {c : Array Value} (h : TRel σ t c) (d : Array Value) : TRel σ t (c ++ d) := fun x v hx => by
  obtain ⟨v', h1, h2⟩ := h x v hx
  have hlt : x.val < c.size := (Array.getElem?_eq_some_iff.1 h1).1
  exact ⟨v', by rw [Array.getElem?_append_left hlt]; exact h1, h2⟩
theorem TRel.row {t : T AV} {c : Array Value} (h : TRel σ t c) {o n : Nat} {l : List AV} (hl : l.length = n) (hg : ∀ j, j < n → T.get t (ix (o + j)) = l[j]?) :
    ∃ vs : List Value, VsRel σ l vs ∧ vs.length = n ∧ ∀ j v, vs[j]? = some v → c[o + j]? = some v := by
  induction l generalizing o n with
  | nil => exact ⟨[], .nil, hl, fun j v hv => by simp at hv⟩
  | cons a l ih =>
    cases n with
    | zero => simp at hl
    | succ n =>
      have h0 := hg 0 (by omega)
      simp only [List.getElem?_cons_zero] at h0
      obtain ⟨v, hv1, hv2⟩ := h _ _ h0
      obtain ⟨vs, h1, h2, h3⟩ := ih (o := o + 1) (n := n) (by simpa using hl) (fun j hj => by
        have := hg (j + 1) (by omega)
        simp only [List.getElem?_cons_succ] at this
        rw [← this]; congr 2; omega)
      refine ⟨v :: vs, .cons hv2 h1, by simp [h2], fun j u hu => ?_⟩
      cases j with
      | zero => simp only [List.getElem?_cons_zero, Option.some.injEq] at hu; subst hu; simpa using hv1
      | succ j =>
        simp only [List.getElem?_cons_succ] at hu
        have := h3 j u hu
        rw [← this]; congr 1; omega
theorem addr_add (c o n : Nat) : (⟨c, o, none⟩ : Addr).add n = ⟨c, o + n, none⟩ := by unfold Addr.add; split <;> simp_all
theorem cell_of {c o : Nat} {cs : Array Value} {e : TypeId} {fr : Nat × Nat} (h : w.heap[c]? = some (.cells cs e fr)) : w.cell? ⟨c, o, none⟩ = cs[o]? := by
  simp [World.cell?, h]
theorem WRel.cells (h : WRel X σ A w) {b : Ix} {t : T AV} {n : Nat} {e : TypeId} {cl : Bool} (hb : A.heap.get b = some (.cells t n e cl)) :
    ∃ c cs fr, σ b = some c ∧ w.heap[c]? = some (.cells cs e fr) ∧ n ≤ cs.size ∧ (∀ x v, t.get x = some v → x.val < n) ∧ TRel σ t cs ∧ (cl = true → fr = (0, 0)) := by
  obtain ⟨c, O, hc, hO, hr⟩ := h.live b _ hb
  cases hr with
  | cells hn hk ht hcl => exact ⟨c, _, _, hc, hO, hn, hk, ht, hcl⟩
theorem VRel.ptr_inv {b : Ix} {o : Nat} {v : Value} (h : VRel σ (.ptr b o) v) : ∃ c, σ b = some c ∧ v = .pointer (some ⟨c, o, none⟩) := by
  cases h with
  | ptr h => exact ⟨_, h, rfl⟩
def isAggD : TypeDesc → Bool
  | .struct _ | .array _ _ => true
  | _ => false
theorem run_isAggD {P : Program} {t : TypeId} {d : TypeDesc} (h : P.underlying t = some d) (w : World) : (isAgg t).run P w = .ok (isAggD d) w := by
  cases d <;> simp [isAgg, run_underlying h, isAggD]
def loadK (n : Option Nat) (a : AV) (A : AW) (k : AV → Option α) : Option α :=
  match a with
  | .ptr b o => (match A.heap.get b with
    | some (.cells t _ _ _) => (match n with
      | none => (match T.get t (ix o) with
        | some v => k v
        | none => none)
      | some n => gatherK t o n fun l => k (.agg l))
    | _ => none)
  | _ => none
def LoadT (P : Program) (t : TypeId) (n : Option Nat) : Prop :=
  ∃ d i, P.underlying t = some d ∧ P.info? t = some i ∧ n = if isAggD d then some i.size else none
def Loads (t : T AV) (o : Nat) (v : AV) : Option Nat → Prop
  | none => T.get t (ix o) = some v
  | some n => ∃ l, v = .agg l ∧ l.length = n ∧ ∀ j, j < n → T.get t (ix (o + j)) = l[j]?
theorem loadVar_ok {n : Option Nat} {b : Ix} {o : Nat} {t : T AV} {v : AV} {c : Nat} {cs : Array Value} {e : TypeId} {fr : Nat × Nat} {ty : TypeId}
    (hc : w.heap[c]? = some (.cells cs e fr)) (ht : TRel σ t cs) (hT : LoadT X.P ty n)
    (hv : Loads t o v n) :
    ∃ v', VRel σ v v' ∧ (loadVar ty ⟨c, o, none⟩).run X.P w = .ok v' w := by
  obtain ⟨d, i, hd, hi, rfl⟩ := hT
  cases ha : isAggD d
  · have hv : Loads t o v none := by simpa [ha] using hv
    have hv : T.get t (ix o) = some v := hv
    obtain ⟨v', h1, h2⟩ := ht _ _ hv
    simp only [ix_val] at h1
    refine ⟨v', h2, ?_⟩
    simp [loadVar, run_isAggD hd, ha, cell_of hc, h1]
  · have hv : Loads t o v (some i.size) := by simpa [ha] using hv
    obtain ⟨l, rfl, hl, hg⟩ := hv
    obtain ⟨vs, h1, h2, h3⟩ := ht.row hl hg
    refine ⟨.agg vs.toArray, .agg (by simpa using h1), ?_⟩
    have hrun := run_loadCells_list (P := X.P) w ⟨c, o, none⟩ vs (fun j v hv => by rw [addr_add, cell_of hc]; exact h3 j v hv)
    rw [h2] at hrun
    simp [loadVar, run_isAggD hd, ha, sizeOf, typeInfo, hi, hrun]
theorem loadK_ok {n : Option Nat} {a : AV} {k : AV → Option α} {r : α} (h : loadK n a A k = some r) :
    ∃ v, k v = some r ∧ ∀ (X : Ctx) σ w va t, WRel X σ A w → VRel σ a va → LoadT X.P t n → Rd X σ w (Instr.loadAt t va) v := by
  unfold loadK at h
  split at h
  · rename_i b o
    split at h
    · rename_i t m e cl hb
      cases n with
      | none =>
        simp only [] at h
        split at h
        · rename_i v hv
          refine ⟨v, h, fun X σ w va ty hw ha hT => ?_⟩
          obtain ⟨c, hc, rfl⟩ := ha.ptr_inv
          obtain ⟨c', cs, fr, hc', hO, _, _, ht, _⟩ := hw.cells hb
          have : c' = c := by rw [hc] at hc'; exact (Option.some.inj hc').symm
          subst this
          obtain ⟨v', h1, h2⟩ := loadVar_ok (b := b) hO ht hT hv
          exact ⟨v', h1, by simp [Instr.loadAt, Instr.sureAddr, h2]⟩
        · cases h
      | some n =>
        simp only [] at h
        obtain ⟨l, hk, hl, hg⟩ := gatherK_ok h
        refine ⟨.agg l, hk, fun X σ w va ty hw ha hT => ?_⟩
        obtain ⟨c, hc, rfl⟩ := ha.ptr_inv
        obtain ⟨c', cs, fr, hc', hO, _, _, ht, _⟩ := hw.cells hb
        have : c' = c := by rw [hc] at hc'; exact (Option.some.inj hc').symm
        subst this
        obtain ⟨v', h1, h2⟩ := loadVar_ok (b := b) (o := o) (v := .agg l) hO ht hT ⟨l, rfl, hl, hg⟩
        exact ⟨v', h1, by simp [Instr.loadAt, Instr.sureAddr, h2]⟩
    · cases h
  · cases h
def AV.cell : AV → Bool
  | .agg _ | .tuple _ => false
  | _ => true
def AV.cells : AV → List AV
  | .agg l => l
  | v => [v]
theorem VRel.oneCell {a : AV} {v : Value} (h : VRel σ a v) (hc : a.cell = true) : v.oneCell' = true := by
  cases h <;> first | rfl | (simp [AV.cell] at hc)
theorem VRel.cells {a : AV} {v : Value} (h : VRel σ a v) : VsRel σ a.cells v.cells.toList := by
  cases h with
  | agg h => exact h
  | bool b => exact .cons (.bool b) .nil
  | int k n => exact .cons (.int k n) .nil
  | ge h h' => exact .cons (.ge h h') .nil
  | str h hn => exact .cons (.str h hn) .nil
  | nptr => exact .cons .nptr .nil
  | ptr h => exact .cons (.ptr h) .nil
  | nslice => exact .cons .nslice .nil
  | slice h hc he ho hm => exact .cons (.slice h hc he ho hm) .nil
  | nmap => exact .cons .nmap .nil
  | map h => exact .cons (.map h) .nil
  | func h1 h2 => exact .cons (.func h1 h2) .nil
  | yield h => exact .cons (.yield h) .nil
  | nfunc => exact .cons .nfunc .nil
  | iface h => exact .cons (.iface h) .nil
  | niface => exact .cons .niface .nil
  | tuple h => exact .cons (.tuple h) .nil
def allCells : List AV → Bool
  | [] => true
  | a :: l => match a.cell with
    | true => allCells l
    | false => false
theorem allCells_ok : ∀ {l : List AV} {vs : List Value}, allCells l = true → VsRel σ l vs → ∀ v ∈ vs, v.oneCell' = true
  | [], _, _, .nil => fun v hv => by cases hv
  | a :: l, _, h, .cons hv ht => by
    simp only [allCells] at h
    split at h
    · rename_i hc
      intro v hm
      cases hm with
      | head => exact hv.oneCell hc
      | tail _ hm => exact allCells_ok h ht v hm
    · cases h
def lenN : List AV → Nat
  | [] => 0
  | _ :: l => Nat.succ (lenN l)
theorem lenN_eq : ∀ l, lenN l = l.length
  | [] => rfl
  | _ :: l => by simp [lenN, lenN_eq l]
def storeRowK (b : Ix) (o : Nat) (l : List AV) (A : AW) (k : AW → Option α) : Option α :=
  match A.heap.get b with
  | some (.cells t n e true) => (match Nat.ble (o + lenN l) n && allCells l with
    | true => setRowK t o l fun t => T.setK (some (.cells t n e true)) b A.heap fun h => k ⟨h, A.next⟩
    | false => none)
  | _ => none
theorem setRow_ext (hw : WRel X σ A w) {b : Ix} {t t' : T AV} {n : Nat} {e : TypeId} {c : Nat} {cs cs' : Array Value} (hb : A.heap.get b = some (.cells t n e true)) (hc : σ b = some c)
    (hO : w.heap[c]? = some (.cells cs e (0, 0))) (hn : n ≤ cs'.size) (hk : ∀ x v, t'.get x = some v → x.val < n) (ht : TRel σ t' cs') (hsz : cs'.size = cs.size) :
    Go.Abs.Ext X σ A w σ ⟨T.set (some (.cells t' n e true)) b A.heap, A.next⟩ (w.setRow c cs') := by
  have hlt : c < w.heap.size := (Array.getElem?_eq_some_iff.1 hO).1
  have hv : w.heap[c] = .cells cs e (0, 0) := (Array.getElem?_eq_some_iff.1 hO).2
  refine Ext.change hw hb hc (O' := .cells cs' e (0, 0)) (.cells hn hk ht (fun _ => rfl)) (fun d => ?_) (fun cs₁ e₁ fr₁ h => by cases h; rw [hsz]; exact hw.size b c cs e _ hc hO) (by simp [World.setRow]) rfl rfl rfl
  unfold World.setRow
  by_cases hd : d = c
  · subst hd
    simp only [if_true]
    rw [Array.getElem?_modify, if_pos rfl, hO]; rfl
  · simp only [hd, if_false]
    rw [Array.getElem?_modify, if_neg (fun e => hd e.symm)]
theorem seg_get (cs : Array Value) (o : Nat) (vs : List Value) (h : o + vs.length ≤ cs.size) (j : Nat) :
    (cs.toList.take o ++ vs ++ cs.toList.drop (o + vs.length)).toArray[j]? = if o ≤ j ∧ j < o + vs.length then vs[j - o]? else cs[j]? := by
  have h1 : o ≤ cs.toList.length := by simp; omega
  simp only [List.getElem?_toArray, List.append_assoc]
  rw [List.getElem?_append]
  simp only [List.length_take, Nat.min_eq_left h1]
  by_cases ha : j < o
  · have : ¬ (o ≤ j ∧ j < o + vs.length) := by omega
    simp [ha, this]
  · rw [if_neg ha, List.getElem?_append]
    by_cases hb : j - o < vs.length
    · have : o ≤ j ∧ j < o + vs.length := by omega
      simp [hb, this]
    · have : ¬ (o ≤ j ∧ j < o + vs.length) := by omega
      rw [if_neg hb, if_neg this]
      rw [List.getElem?_drop]
      have : o + vs.length + (j - o - vs.length) = j := by omega
      rw [this]; simp
theorem seg_size (cs : Array Value) (o : Nat) (vs : List Value) (h : o + vs.length ≤ cs.size) :
    (cs.toList.take o ++ vs ++ cs.toList.drop (o + vs.length)).toArray.size = cs.size := by
  simp; omega
theorem storeRowK_ok {b : Ix} {o : Nat} {l : List AV} {k : AW → Option α} {r : α} (h : storeRowK b o l A k = some r) :
    ∃ A', k A' = some r ∧ A'.next = A.next ∧ ∀ (X : Ctx) σ w c vs, WRel X σ A w → σ b = some c → VsRel σ l vs →
      ∃ w', (storeCells ⟨c, o, none⟩ vs).run X.P w = .ok () w' ∧ Go.Abs.Ext X σ A w σ A' w' := by
  unfold storeRowK at h
  split at h
  · rename_i t n e hb
    split at h
    · rename_i hcond
      simp only [setRowK_eq, T.setK_eq] at h
      refine ⟨_, h, rfl, fun X σ w c vs hw hc hl => ?_⟩
      simp only [Bool.and_eq_true] at hcond
      have hle : o + l.length ≤ n := by have := Nat.le_of_ble_eq_true hcond.1; rwa [lenN_eq] at this
      obtain ⟨c', cs, fr, hc', hO, hn, hk, ht, hcl⟩ := hw.cells hb
      have : c' = c := by rw [hc] at hc'; exact (Option.some.inj hc').symm
      subst this
      have hfr := hcl rfl
      subst hfr
      have hlen := hl.length
      have hfit : o + vs.length ≤ cs.size := by omega
      have hrun := run_storeCells_at X.P c' o e vs 0 cs w hO (by simpa using hfit) (allCells_ok hcond.2 hl)
      refine ⟨_, hrun, ?_⟩
      have hsz := seg_size cs o vs hfit
      refine setRow_ext hw hb hc hO (by simp only [Nat.add_zero]; rw [hsz]; omega) (fun x v hx => ?_) (ht.setRow hl (fun j => by simpa using seg_get cs o vs hfit j)) (by simpa using hsz)
      rw [setRow_get] at hx
      split at hx
      · omega
      · exact hk x v hx
    · cases h
  · cases h
def storeK (n : Nat) (a x : AV) (A : AW) (k : AW → Option α) : Option α :=
  match a with
  | .ptr b o => (match Nat.beq (lenN x.cells) n with
    | true => storeRowK b o x.cells A k
    | false => none)
  | _ => none
theorem storeK_ok {n : Nat} {a x : AV} {k : AW → Option α} {r : α} (h : storeK n a x A k = some r) :
    ∃ A', k A' = some r ∧ A'.next = A.next ∧ ∀ (X : Ctx) σ w va vx t, WRel X σ A w → VRel σ a va → VRel σ x vx → (X.P.info? t).map (·.size) = some n →
      ∃ w', (Instr.storeAt t va vx).run X.P w = .ok () w' ∧ Go.Abs.Ext X σ A w σ A' w' := by
  unfold storeK at h
  split at h
  · rename_i b o
    split at h
    · rename_i hlen
      obtain ⟨A', hk, hnx, hA⟩ := storeRowK_ok h
      refine ⟨A', hk, hnx, fun X σ w va vx t hw ha hx hT => ?_⟩
      obtain ⟨c, hc, rfl⟩ := ha.ptr_inv
      obtain ⟨w', hrun, hext⟩ := hA X σ w c _ hw hc hx.cells
      refine ⟨w', ?_, hext⟩
      have hlen' := Nat.eq_of_beq_eq_true hlen
      rw [lenN_eq, hx.cells.length] at hlen'
      cases hi : X.P.info? t with
      | none => simp [hi] at hT
      | some i =>
        have hs : i.size = n := by simpa [hi] using hT
        have : ¬ (vx.cells.size ≠ i.size) := by simp at hlen'; omega
        simp [Instr.storeAt, Instr.sureAddr, storeVar, sizeOf, typeInfo, hi, hrun]
        simp at hlen'; omega
    · cases h
  · cases h
def AW.newK (A : AW) (o : AObj) (k : Ix → AW → Option α) : Option α := T.setK (some o) A.next A.heap fun h => k A.next ⟨h, Ix.succ A.next⟩
@[simp] theorem newK_eq (A : AW) (o : AObj) (k : Ix → AW → Option α) : A.newK o k = k A.next (A.new o) := by simp [AW.newK, AW.new, T.setK_eq]
theorem newRow_ok (hw : WRel X σ A w) {t : T AV} {n : Nat} {cs : Array Value} (e : TypeId) (hn : n ≤ cs.size) (hk : ∀ x v, t.get x = some v → x.val < n) (ht : TRel σ t cs) :
    (newRow e cs).run X.P w = .ok ⟨w.heap.size, 0, none⟩ (w.alloc (.cells cs e)) ∧
      Go.Abs.Ext X σ A w (σ.put A.next w.heap.size cs.size) (A.new (.cells t n e true)) (w.alloc (.cells cs e)) := by
  refine ⟨rfl, ?_⟩
  exact Ext.new (O := .cells cs e) hw (.cells hn hk (ht.mono (hw.le_put cs.size)) (fun _ => rfl))
def newCellsK (e : TypeId) (t : T AV) (n : Nat) (A : AW) (k : AV → AW → Option α) : Option α :=
  A.newK (.cells t n e true) fun b A => k (.ptr b 0) A
theorem alloc_ok (hw : WRel X σ A w) {e : TypeId} {i : TypeInfo} {z : Value} {t : T AV} {n : Nat} (hi : X.P.info? e = some i) (hz : i.zero = some z)
    (ht : TRel σ t z.cells) (hn : n ≤ z.cells.size) (hk : ∀ x v, t.get x = some v → x.val < n) :
    Gives X σ A w (Instr.alloc e true (.tuple #[])) (.ptr A.next 0) (A.new (.cells t n e true)) := by
  obtain ⟨h1, h2⟩ := newRow_ok hw e hn hk ht
  refine ⟨_, _, .pointer (some ⟨w.heap.size, 0, none⟩), ?_, h2, .ptr (Sig.put_same _ _ _ _)⟩
  simp [Instr.alloc, zeroValue, typeInfo, hi, hz, newVar, h1]
def boxK (e : TypeId) (x : AV) (A : AW) (k : AV → AW → Option α) : Option α :=
  setRowK .nil 0 x.cells fun t => natK (lenN x.cells) fun n => newCellsK e t n A k
theorem boxK_ok {e : TypeId} {x : AV} {k : AV → AW → Option α} {r : α} (h : boxK e x A k = some r) :
    ∃ v A', k v A' = some r ∧ A'.next = A.next.succ ∧ v = .ptr A.next 0 ∧ ∀ (X : Ctx) σ w vx, WRel X σ A w → VRel σ x vx →
      ∃ w', (Instr.box e vx).run X.P w = .ok (.pointer (some ⟨w.heap.size, 0, none⟩)) w' ∧ w' = w.alloc (.cells vx.cells e) ∧
      Go.Abs.Ext X σ A w (σ.put A.next w.heap.size vx.cells.size) A' w' := by
  simp only [boxK, setRowK_eq, natK_eq, newCellsK, newK_eq] at h
  refine ⟨_, _, h, rfl, rfl, fun X σ w vx hw hx => ?_⟩
  have hl := hx.cells
  obtain ⟨h1, h2⟩ := newRow_ok (cs := vx.cells) hw e (n := lenN x.cells) (by rw [lenN_eq, hl.length]; simp) (fun x v h => by rw [lenN_eq]; exact ofList_lt h) (by have := TRel.ofList hl; simpa using this)
  exact ⟨_, by simp [Instr.box, newVar, h1], rfl, h2⟩
end Go.Abs
end
section
namespace Go.Abs
variable {X : Ctx} {σ : Sig} {A : AW} {w : World} {α : Type}
theorem VRel.int_inv {k : IntKind} {n : Int} {v : Value} (h : VRel σ (.int k n) v) : v = .int k n := by cases h; rfl
theorem VRel.bool_inv {b : Bool} {v : Value} (h : VRel σ (.bool b) v) : v = .bool b := by cases h; rfl
theorem VRel.slice_inv {b : Ix} {o len cap : Nat} {ex : Nat} {v : Value} (h : VRel σ (.slice b o len cap ex) v) :
    ∃ c cap', σ b = some c ∧ cap ≤ cap' ∧ (ex = 0 → cap' = cap) ∧ (ex ≠ 0 → o + cap' * ex = σ.sz c) ∧ cap' < 9223372036854775808 ∧ v = .slice (some ⟨c, o, none⟩) len cap' := by
  cases h with
  | slice h hc he ho hm => exact ⟨_, _, h, hc, he, ho, hm, rfl⟩
theorem VRel.str_inv {n : Nat} {l : List Nat} {v : Value} (h : VRel σ (.str n l) v) : ∃ s, strBytes s = l ∧ s.size = n ∧ v = .string s := by
  cases h with
  | str h hn => exact ⟨_, h, hn, rfl⟩
theorem VRel.agg_inv {l : List AV} {v : Value} (h : VRel σ (.agg l) v) : ∃ vs : Array Value, VsRel σ l vs.toList ∧ v = .agg vs := by
  cases h with
  | agg h => exact ⟨_, h, rfl⟩
def faddrK (off : Nat) (x : AV) (k : AV → Option α) : Option α :=
  match x with
  | .ptr b o => natK (o + off) fun o => k (.ptr b o)
  | _ => none
def FieldT (P : Program) (t : TypeId) (i off : Nat) : Prop :=
  ∃ fields f j, P.underlying t = some (.struct fields) ∧ fields[i]? = some f ∧ P.info? f.type = some j ∧ j.size ≠ 0 ∧ f.offset = off
theorem faddrK_ok {off : Nat} {x : AV} {k : AV → Option α} {r : α} (h : faddrK off x k = some r) :
    ∃ v, k v = some r ∧ ∀ P σ t i vx, FieldT P t i off → VRel σ x vx → Pur P σ (Instr.fieldAt t vx i) v := by
  unfold faddrK at h
  split at h
  · simp only [natK_eq] at h
    refine ⟨_, h, fun P σ t i vx hT hx => ?_⟩
    obtain ⟨c, hc, rfl⟩ := hx.ptr_inv
    obtain ⟨fields, f, j, hu, hf, hj, hj0, rfl⟩ := hT
    refine ⟨_, .ptr hc, fun w => ?_⟩
    simp [Instr.fieldAt, run_underlying hu, hf, Instr.sureAddr, fieldPlace, sizeOf, typeInfo, hj, hj0, addr_add]
  · cases h
def iaddrK (sz : Nat) (x i : AV) (k : AV → Option α) : Option α :=
  match x, i with
  | .slice b o len _ _, .int _ (.ofNat n) => (match Nat.blt n len with
    | true => natK (o + n * sz) fun o => k (.ptr b o)
    | false => none)
  | _, _ => none
theorem iaddrK_ok {sz : Nat} {x i : AV} {k : AV → Option α} {r : α} (h : iaddrK sz x i k = some r) :
    ∃ v, k v = some r ∧ ∀ P σ t e j vx vi, P.underlying t = some (.slice e) → P.info? e = some j → j.size = sz → VRel σ x vx → VRel σ i vi → Pur P σ (Instr.indexAt t vx vi) v := by
  unfold iaddrK at h
  split at h
  · split at h
    · rename_i hlt
      simp only [natK_eq] at h
      refine ⟨_, h, fun P σ t e j vx vi hu hj hs hx hi => ?_⟩
      obtain ⟨c, cap', hc, _, _, _, _, rfl⟩ := hx.slice_inv
      have := hi.int_inv; subst this; subst hs
      refine ⟨_, .ptr hc, fun w => ?_⟩
      rw [blt_decide] at hlt
      have hlt := of_decide_eq_true hlt
      simp [Instr.indexAt, asIntOf, run_underlying hu, sizeOf, typeInfo, hj, addr_add, hlt]
    · cases h
  · cases h
def iaddrAK (len sz : Nat) (x i : AV) (k : AV → Option α) : Option α :=
  match x, i with
  | .ptr b o, .int _ (.ofNat n) => (match Nat.blt n len with
    | true => natK (o + n * sz) fun o => k (.ptr b o)
    | false => none)
  | _, _ => none
theorem iaddrAK_ok {len sz : Nat} {x i : AV} {k : AV → Option α} {r : α} (h : iaddrAK len sz x i k = some r) :
    ∃ v, k v = some r ∧ ∀ P σ t e j vx vi, P.underlying t = some (.array len e) → P.info? e = some j → j.size = sz → VRel σ x vx → VRel σ i vi → Pur P σ (Instr.indexAt t vx vi) v := by
  unfold iaddrAK at h
  split at h
  · split at h
    · rename_i hlt
      simp only [natK_eq] at h
      refine ⟨_, h, fun P σ t e j vx vi hu hj hs hx hi => ?_⟩
      obtain ⟨c, hc, rfl⟩ := hx.ptr_inv
      have := hi.int_inv; subst this; subst hs
      refine ⟨_, .ptr hc, fun w => ?_⟩
      rw [blt_decide] at hlt
      have hlt := of_decide_eq_true hlt
      simp [Instr.indexAt, asIntOf, run_underlying hu, sizeOf, typeInfo, hj, addr_add, hlt, Instr.sureAddr]
    · cases h
  · cases h
def nthN : List Nat → Nat → Option Nat
  | [], _ => none
  | a :: l, n => match n with
    | 0 => some a
    | m + 1 => nthN l m
theorem nthN_eq : ∀ (l : List Nat) (n : Nat), nthN l n = l[n]?
  | [], n => by simp [nthN]
  | a :: l, 0 => by simp [nthN]
  | a :: l, n + 1 => by simp [nthN, nthN_eq l n]
def idxSK (x i : AV) (k : AV → Option α) : Option α :=
  match x, i with
  | .str _ l, .int _ (.ofNat n) => (match nthN l n with
    | some b => natK b fun b => k (.int .u8 (.ofNat b))
    | none => none)
  | _, _ => none
theorem strBytes_get {s : ByteArray} {n b : Nat} (h : (strBytes s)[n]? = some b) : ∃ u : UInt8, s[n]? = some u ∧ u.toNat = b := by
  simp only [strBytes, List.getElem?_map, Option.map_eq_some_iff] at h
  obtain ⟨u, hu, rfl⟩ := h
  refine ⟨u, ?_, rfl⟩
  have hlt : n < s.size := by
    have := (List.getElem?_eq_some_iff.1 hu).1
    simpa using this
  have : s.data[n]? = some u := by simpa using hu
  rw [getElem?_pos s n hlt]
  have h2 := (Array.getElem?_eq_some_iff.1 this).2
  simp only [Option.some.injEq]
  rw [← h2]; rfl
theorem idxSK_ok {x i : AV} {k : AV → Option α} {r : α} (h : idxSK x i k = some r) :
    ∃ v, k v = some r ∧ ∀ P σ t vx vi, P.underlying t = some .string → VRel σ x vx → VRel σ i vi → Pur P σ (Instr.index t vx vi) v := by
  unfold idxSK at h
  split at h
  · split at h
    · rename_i hn
      simp only [natK_eq] at h
      refine ⟨_, h, fun P σ t vx vi hu hx hi => ?_⟩
      obtain ⟨s, hs, _, rfl⟩ := hx.str_inv
      have := hi.int_inv; subst this
      rw [nthN_eq, ← hs] at hn
      obtain ⟨u, hu', rfl⟩ := strBytes_get hn
      refine ⟨.int .u8 u.toNat, .int _ _, fun w => ?_⟩
      simp [Instr.index, asIntOf, run_underlying hu, hu']
    · cases h
  · cases h
def partK (n : Option Nat) (off : Nat) (l : List AV) (k : AV → Option α) : Option α :=
  match n with
  | none => (match l[off]? with
    | some v => k v
    | none => none)
  | some n => (match Nat.ble (off + n) (lenN l) with
    | true => listK ((l.drop off).take n) fun l => k (.agg l)
    | false => none)
theorem partK_ok {n : Option Nat} {off : Nat} {l : List AV} {k : AV → Option α} {r : α} (h : partK n off l k = some r) :
    ∃ v, k v = some r ∧ ∀ P σ t (vs : Array Value), LoadT P t n → VsRel σ l vs.toList → Pur P σ (part t vs off) v := by
  unfold partK at h
  cases n with
  | none =>
    simp only [] at h
    split at h
    · rename_i v hv
      refine ⟨v, h, fun P σ t vs hT hl => ?_⟩
      obtain ⟨d, i, hd, hi, he⟩ := hT
      have ha : isAggD d = false := by cases hb : isAggD d <;> simp [hb] at he ⊢
      obtain ⟨v', h1, h2⟩ := hl.get off hv
      have h1 : vs[off]? = some v' := by simpa using h1
      exact ⟨v', h2, fun w => by simp [part, run_isAggD hd, ha, h1]⟩
    · cases h
  | some n =>
    simp only [] at h
    split at h
    · rename_i hle
      simp only [listK_eq] at h
      refine ⟨_, h, fun P σ t vs hT hl => ?_⟩
      obtain ⟨d, i, hd, hi, he⟩ := hT
      have ha : isAggD d = true := by cases hb : isAggD d <;> simp [hb] at he ⊢
      have hn : n = i.size := by simpa [ha] using he
      refine ⟨.agg (vs.extract off (off + n)), .agg ?_, fun w => by simp [part, run_isAggD hd, ha, sizeOf, typeInfo, hi, hn]⟩
      have := (hl.drop off).take n
      have e : (vs.extract off (off + n)).toList = (vs.toList.drop off).take n := by
        simp [Array.toList_extract, List.extract_eq_take_drop]
      rw [e]; exact this
    · cases h
def fieldK (off : Nat) (n : Option Nat) (x : AV) (k : AV → Option α) : Option α :=
  match x with
  | .agg l => partK n off l k
  | _ => none
theorem fieldK_ok {off : Nat} {n : Option Nat} {x : AV} {k : AV → Option α} {r : α} (h : fieldK off n x k = some r) :
    ∃ v, k v = some r ∧ ∀ P σ t i vx fields (f : Field), P.underlying t = some (.struct fields) → fields[i]? = some f → f.offset = off → LoadT P f.type n → VRel σ x vx →
      Pur P σ (Instr.field t vx i) v := by
  unfold fieldK at h
  split at h
  · obtain ⟨v, hk, hv⟩ := partK_ok h
    refine ⟨v, hk, fun P σ t i vx fields f hu hf ho hT hx => ?_⟩
    obtain ⟨vs, hl, rfl⟩ := hx.agg_inv
    subst ho
    obtain ⟨v', h1, h2⟩ := hv P σ f.type vs hT hl
    exact ⟨v', h1, fun w => by simp [Instr.field, run_underlying hu, hf, asAgg, h2]⟩
  · cases h
def idxAK (len sz : Nat) (agg : Bool) (x i : AV) (k : AV → Option α) : Option α :=
  match x, i with
  | .agg l, .int _ (.ofNat n) => (match Nat.blt n len with
    | true => partK (if agg then some sz else none) (n * sz) l k
    | false => none)
  | _, _ => none
theorem idxAK_ok {len sz : Nat} {agg : Bool} {x i : AV} {k : AV → Option α} {r : α} (h : idxAK len sz agg x i k = some r) :
    ∃ v, k v = some r ∧ ∀ P σ t e j d vx vi, P.underlying t = some (.array len e) → P.underlying e = some d → P.info? e = some j → j.size = sz → isAggD d = agg → VRel σ x vx → VRel σ i vi →
      Pur P σ (Instr.index t vx vi) v := by
  unfold idxAK at h
  split at h
  · split at h
    · rename_i hlt
      obtain ⟨v, hk, hv⟩ := partK_ok h
      refine ⟨v, hk, fun P σ t e j d vx vi hu hd hj hs ha hx hi => ?_⟩
      obtain ⟨vs, hl, rfl⟩ := hx.agg_inv
      have := hi.int_inv; subst this
      rw [blt_decide] at hlt
      have hlt := of_decide_eq_true hlt
      obtain ⟨v', h1, h2⟩ := hv P σ e vs ⟨d, j, hd, hj, by rw [ha, hs]⟩ hl
      exact ⟨v', h1, fun w => by simp [Instr.index, asIntOf, run_underlying hu, sizeOf, typeInfo, hj, hs, hlt, h2]⟩
    · cases h
  · cases h
def bnd (x : Option AV) (d : Nat) (k : Nat → Option α) : Option α :=
  match x with
  | none => k d
  | some (.int _ (.ofNat n)) => natK n k
  | _ => none
inductive ORelV (σ : Sig) : Option AV → Option Value → Prop
  | none : ORelV σ none none
  | some {a : AV} {v : Value} (h : VRel σ a v) : ORelV σ (some a) (some v)
theorem bnd_ok {x : Option AV} {d : Nat} {k : Nat → Option α} {r : α} (h : bnd x d k = some r) :
    ∃ n, k n = some r ∧ ∀ σ vx, ORelV σ x vx → (x = none ∧ vx = none ∧ n = d) ∨ ∃ kd, vx = some (.int kd n) := by
  unfold bnd at h
  split at h
  · exact ⟨d, h, fun σ vx hx => by cases hx; exact .inl ⟨rfl, rfl, rfl⟩⟩
  · simp only [natK_eq] at h
    refine ⟨_, h, fun σ vx hx => ?_⟩
    cases hx with
    | some hv => have := hv.int_inv; subst this; exact .inr ⟨_, rfl⟩
  · cases h
def boundsK (len cap : Nat) (lo hi mx : Option AV) (k : Nat → Nat → Option Nat → Option α) : Option α :=
  match mx with
  | none => bnd hi len fun h => (match Nat.ble h cap with
    | true => bnd lo 0 fun l => (match Nat.ble l h with
      | true => k l h none
      | false => none)
    | false => none)
  | some m => (match hi with
    | none => none
    | some hi => bnd (some m) 0 fun m => (match Nat.ble m cap with
      | true => bnd (some hi) 0 fun h => (match Nat.ble h m with
        | true => bnd lo 0 fun l => (match Nat.ble l h with
          | true => k l h (some m)
          | false => none)
        | false => none)
      | false => none))
theorem boundsK_ok {len cap : Nat} {lo hi mx : Option AV} {k : Nat → Nat → Option Nat → Option α} {r : α} (h : boundsK len cap lo hi mx k = some r) :
    ∃ l h m, k l h m = some r ∧ l ≤ h ∧ h ≤ cap ∧ (∀ m', m = some m' → h ≤ m' ∧ m' ≤ cap) ∧ ∀ P σ vlo vhi vmx isS cap', ORelV σ lo vlo → ORelV σ hi vhi → ORelV σ mx vmx → cap ≤ cap' → len ≤ cap' →
      (vmx.isSome = m.isSome) ∧ ∀ w, (Instr.sliceBounds isS len cap' vlo vhi vmx).run P w = .ok (l, h, m.getD cap') w := by
  unfold boundsK at h
  cases mx with
  | none =>
    simp only [] at h
    obtain ⟨hh, h1, hh2⟩ := bnd_ok h
    split at h1
    · rename_i hc
      obtain ⟨l, h3, hl⟩ := bnd_ok h1
      split at h3
      · rename_i hlh
        have hc := Nat.le_of_ble_eq_true hc
        have hlh := Nat.le_of_ble_eq_true hlh
        refine ⟨l, hh, none, h3, hlh, hc, fun m' e => (by cases e), fun P σ vlo vhi vmx isS cap' r1 r2 r3 hcc hlen => ?_⟩
        cases r3
        refine ⟨rfl, fun w => ?_⟩
        have hcap : hh ≤ cap' := by omega
        rcases hh2 σ vhi r2 with ⟨rfl, rfl, rfl⟩ | ⟨k2, rfl⟩ <;> rcases hl σ vlo r1 with ⟨rfl, rfl, rfl⟩ | ⟨k1, rfl⟩
        · simp [Instr.sliceBounds]
        · simp [Instr.sliceBounds, Instr.sliceBound, asIntOf, hlh]
        · simp [Instr.sliceBounds, Instr.sliceBound, asIntOf, hcap]
        · simp [Instr.sliceBounds, Instr.sliceBound, asIntOf, hcap, hlh]
      · cases h3
    · cases h1
  | some m0 =>
    simp only [] at h
    cases hi with
    | none => cases h
    | some hi0 =>
      simp only [] at h
      obtain ⟨m, h1, hm⟩ := bnd_ok h
      split at h1
      · rename_i hmc
        obtain ⟨hh, h2, hh2⟩ := bnd_ok h1
        split at h2
        · rename_i hhm
          obtain ⟨l, h3, hl⟩ := bnd_ok h2
          split at h3
          · rename_i hlh
            have hmc := Nat.le_of_ble_eq_true hmc
            have hhm := Nat.le_of_ble_eq_true hhm
            have hlh := Nat.le_of_ble_eq_true hlh
            refine ⟨l, hh, some m, h3, hlh, by omega, fun m' e => (by cases e; exact ⟨hhm, hmc⟩), fun P σ vlo vhi vmx isS cap' r1 r2 r3 hcc hlen => ?_⟩
            rcases hm σ vmx r3 with ⟨e, _⟩ | ⟨k3, rfl⟩
            · cases e
            rcases hh2 σ vhi r2 with ⟨e, _⟩ | ⟨k2, rfl⟩
            · cases e
            refine ⟨rfl, fun w => ?_⟩
            have hcap : m ≤ cap' := by omega
            rcases hl σ vlo r1 with ⟨rfl, rfl, rfl⟩ | ⟨k1, rfl⟩
            · simp [Instr.sliceBounds, Instr.sliceBound, asIntOf, hcap, hhm]
            · simp [Instr.sliceBounds, Instr.sliceBound, asIntOf, hcap, hhm, hlh]
          · cases h3
        · cases h2
      · cases h1
def sliceSK (x : AV) (lo hi : Option AV) (k : AV → Option α) : Option α :=
  match x with
  | .str n s => boundsK n n lo hi none fun l h _ => natK (h - l) fun m => listK ((s.drop l).take m) fun s => k (.str m s)
  | _ => none
theorem extract_bytes (s : ByteArray) (l h : Nat) (hl : l ≤ h) (hh : h ≤ s.size) : strBytes (s.extract l h) = ((strBytes s).drop l).take (h - l) := by
  simp only [strBytes, ByteArray.data_extract]
  rw [← List.map_drop, ← List.map_take]
  congr 1
  simp [Array.toList_extract, List.extract_eq_take_drop]
theorem sliceSK_ok {x : AV} {lo hi : Option AV} {k : AV → Option α} {r : α} (h : sliceSK x lo hi k = some r) :
    ∃ v, k v = some r ∧ ∀ P σ t vx vlo vhi, P.underlying t = some .string → VRel σ x vx → ORelV σ lo vlo → ORelV σ hi vhi → Pur P σ (Instr.sliceAt t vx vlo vhi none) v := by
  unfold sliceSK at h
  split at h
  · obtain ⟨l, hh, m, hk, hlh, hc, _, hrun⟩ := boundsK_ok h
    simp only [natK_eq, listK_eq] at hk
    refine ⟨_, hk, fun P σ t vx vlo vhi hu hx r1 r2 => ?_⟩
    obtain ⟨s, hs, hn, rfl⟩ := hx.str_inv
    obtain ⟨hm, hrun⟩ := hrun P σ vlo vhi none false s.size r1 r2 .none (by omega) (by omega)
    refine ⟨.string (s.extract l hh), .str ?_ ?_, fun w => ?_⟩
    · rw [extract_bytes s l hh hlh (by omega), hs]
    · simp [ByteArray.size_extract]; omega
    · have hrun := hrun w
      rw [← hn] at hrun
      simp [Instr.sliceAt, Instr.slice, run_underlying hu, hrun]
  · cases h
def sliceK (sz : Nat) (x : AV) (lo hi mx : Option AV) (k : AV → Option α) : Option α :=
  match x with
  | .nslice => boundsK 0 0 lo hi mx fun _ _ _ => k .nslice
  | .slice b o len cap ex => (match Nat.ble len cap with
    | true => boundsK len cap lo hi mx fun l h m =>
      (match m with
      | none => (match ex with
        | 0 => (match Nat.blt l cap with
          | true => natK (o + l * sz) fun o => natK (h - l) fun n => natK (cap - l) fun c => k (.slice b o n c 0)
          | false => natK (h - l) fun n => natK (cap - l) fun c => k (.slice b o n c 0))
        | _ + 1 => (match Nat.blt l cap && Nat.beq ex sz with
          | true => natK (o + l * sz) fun o => natK (h - l) fun n => natK (cap - l) fun c => k (.slice b o n c sz)
          | false => none))
      | some m => (match Nat.blt l m with
        | true => natK (o + l * sz) fun o => natK (h - l) fun n => natK (m - l) fun c => k (.slice b o n c 0)
        | false => natK (h - l) fun n => natK (m - l) fun c => k (.slice b o n c 0)))
    | false => none)
  | _ => none
theorem sliceK_ok {sz : Nat} {x : AV} {lo hi mx : Option AV} {k : AV → Option α} {r : α} (h : sliceK sz x lo hi mx k = some r) :
    ∃ v, k v = some r ∧ ∀ P σ t e j vx vlo vhi vmx, P.underlying t = some (.slice e) → P.info? e = some j → j.size = sz → VRel σ x vx → ORelV σ lo vlo → ORelV σ hi vhi → ORelV σ mx vmx →
      Pur P σ (Instr.sliceAt t vx vlo vhi vmx) v := by
  unfold sliceK at h
  split at h
  · obtain ⟨l, hh, m, hk, hlh, hc, hm, hrun⟩ := boundsK_ok h
    refine ⟨_, hk, fun P σ t e j vx vlo vhi vmx hu hj hs hx r1 r2 r3 => ?_⟩
    cases hx
    obtain ⟨_, hrun⟩ := hrun P σ vlo vhi vmx true 0 r1 r2 r3 (by omega) (by omega)
    refine ⟨_, .nslice, fun w => ?_⟩
    have h0 : m.getD 0 = 0 := by
      cases m with
      | none => rfl
      | some m => have := (hm m rfl).2; simp; omega
    have hl0 : l = 0 := by omega
    have hh0 : hh = 0 := by omega
    have hrun := hrun w
    rw [h0, hl0, hh0] at hrun
    simp [Instr.sliceAt, Instr.slice, run_underlying hu, hrun, sizeOf, typeInfo, hj]
  · rename_i b o len cap ex
    split at h
    · rename_i hle
      have hle := Nat.le_of_ble_eq_true hle
      obtain ⟨l, hh, m, hk, hlh, hc, hm, hrun⟩ := boundsK_ok h
      have main : ∀ (P : Program) (σ : Sig) (t e : TypeId) (j : TypeInfo) (vx : Value) (vlo vhi vmx : Option Value) (c cap' : Nat), P.underlying t = some (.slice e) → P.info? e = some j → j.size = sz → vx = .slice (some ⟨c, o, none⟩) len cap' →
          ORelV σ lo vlo → ORelV σ hi vhi → ORelV σ mx vmx → cap ≤ cap' → ∀ w, (Instr.sliceAt t vx vlo vhi vmx).run P w =
          .ok (.slice (if m.getD cap' = l then some ⟨c, o, none⟩ else some ⟨c, o + l * sz, none⟩) (hh - l) (m.getD cap' - l)) w :=
        fun P σ t e j vx vlo vhi vmx c cap' hu hj hs hx r1 r2 r3 hcc w => by
          subst hx
          obtain ⟨_, hrun⟩ := hrun P σ vlo vhi vmx true cap' r1 r2 r3 hcc (by omega)
          have hrun := hrun w
          simp [Instr.sliceAt, Instr.slice, run_underlying hu, hrun, sizeOf, typeInfo, hj, hs]
          split <;> simp [addr_add]
      cases m with
      | none =>
        simp only [] at hk
        split at hk
        · split at hk
          · rename_i hlt
            simp only [natK_eq] at hk
            refine ⟨_, hk, fun P σ t e j vx vlo vhi vmx hu hj hs hx r1 r2 r3 => ?_⟩
            obtain ⟨c, cap', hc', h1, h2, _, h3, rfl⟩ := hx.slice_inv
            rw [blt_decide] at hlt
            have hlt := of_decide_eq_true hlt
            refine ⟨_, .slice (cap' := cap' - l) hc' (by omega) (fun e => by rw [h2 e]) (fun e => absurd rfl e) (by omega), fun w => ?_⟩
            rw [main P σ t e j _ vlo vhi vmx c cap' hu hj hs rfl r1 r2 r3 h1 w]
            have : ¬ (cap' = l) := by omega
            simp [this]
          · rename_i hlt
            simp only [natK_eq] at hk
            refine ⟨_, hk, fun P σ t e j vx vlo vhi vmx hu hj hs hx r1 r2 r3 => ?_⟩
            obtain ⟨c, cap', hc', h1, h2, _, h3, rfl⟩ := hx.slice_inv
            have he := h2 rfl
            rw [blt_decide] at hlt
            have hlt := of_decide_eq_false hlt
            refine ⟨_, .slice (cap' := cap' - l) hc' (by omega) (fun e => by rw [he]) (fun e => absurd rfl e) (by omega), fun w => ?_⟩
            rw [main P σ t e j _ vlo vhi vmx c cap' hu hj hs rfl r1 r2 r3 h1 w]
            have : cap' = l := by omega
            simp [this]
        · rename_i ex
          split at hk
          · rename_i hlt
            simp only [natK_eq] at hk
            simp only [Bool.and_eq_true] at hlt
            obtain ⟨hlt, hsz⟩ := hlt
            have hsz := Nat.eq_of_beq_eq_true hsz
            subst hsz
            refine ⟨_, hk, fun P σ t e j vx vlo vhi vmx hu hj hs hx r1 r2 r3 => ?_⟩
            obtain ⟨c, cap', hc', h1, h2, h4, h3, rfl⟩ := hx.slice_inv
            rw [blt_decide] at hlt
            have hlt := of_decide_eq_true hlt
            refine ⟨_, .slice (cap' := cap' - l) hc' (by omega) (fun e => by simp at e) (fun e => ?_) (by omega), fun w => ?_⟩
            · rw [← h4 e, Nat.add_assoc, ← Nat.add_mul]
              congr 2; omega
            · rw [main P σ t e j _ vlo vhi vmx c cap' hu hj hs rfl r1 r2 r3 h1 w]
              have : ¬ (cap' = l) := by omega
              simp [this]
          · cases hk
      | some m =>
        simp only [] at hk
        have hmm := hm m rfl
        split at hk
        · rename_i hlt
          simp only [natK_eq] at hk
          refine ⟨_, hk, fun P σ t e j vx vlo vhi vmx hu hj hs hx r1 r2 r3 => ?_⟩
          obtain ⟨c, cap', hc', h1, h2, _, h3, rfl⟩ := hx.slice_inv
          rw [blt_decide] at hlt
          have hlt := of_decide_eq_true hlt
          refine ⟨_, .slice (cap' := m - l) hc' (by omega) (fun e => rfl) (fun e => absurd rfl e) (by omega), fun w => ?_⟩
          rw [main P σ t e j _ vlo vhi vmx c cap' hu hj hs rfl r1 r2 r3 h1 w]
          have : ¬ (m = l) := by omega
          simp [this]
        · rename_i hlt
          simp only [natK_eq] at hk
          refine ⟨_, hk, fun P σ t e j vx vlo vhi vmx hu hj hs hx r1 r2 r3 => ?_⟩
          obtain ⟨c, cap', hc', h1, h2, _, h3, rfl⟩ := hx.slice_inv
          rw [blt_decide] at hlt
          have hlt := of_decide_eq_false hlt
          refine ⟨_, .slice (cap' := m - l) hc' (by omega) (fun e => rfl) (fun e => absurd rfl e) (by omega), fun w => ?_⟩
          rw [main P σ t e j _ vlo vhi vmx c cap' hu hj hs rfl r1 r2 r3 h1 w]
          have : m = l := by omega
          simp [this]
    · cases h
  · cases h
end Go.Abs
end
section
namespace Go.Abs
variable {X : Ctx} {σ : Sig} {A : AW} {w : World} {α : Type}
def leafEq : EqT → AV → AV → Option Bool
  | .int, .int k a, .int k' b => if k = k' then some (ieq a b) else none
  | .bool, .bool a, .bool b => some (a == b)
  | .str, .str _ a, .str _ b => some (leq a b)
  | _, _, _ => none
def leafT (P : Program) (t : TypeId) : EqT → Prop
  | .int => ∃ k, P.underlying t = some (.int k)
  | .bool => P.underlying t = some .bool
  | .str => P.underlying t = some .string
  | _ => False
theorem leafEq_ok {et : EqT} {a b : AV} {r : Bool} (h : leafEq et a b = some r) {P : Program} {t : TypeId} (ht : leafT P t et) {va vb : Value} (ha : VRel σ a va) (hb : VRel σ b vb) (d : Nat) (w : World) :
    (Op.equalIn (d + 1) t va vb).run P w = .ok r w := by
  unfold leafEq at h
  split at h
  · split at h
    · rename_i hk; subst hk
      have := ha.int_inv; subst this
      have := hb.int_inv; subst this
      obtain ⟨k', hk'⟩ := ht
      simp only [Option.some.injEq] at h; subst h
      rw [run_equalIn_int w d t _ k' _ _ hk', ieq_eq, Int.beq_eq_decide]
    · cases h
  · have := ha.bool_inv; subst this
    have := hb.bool_inv; subst this
    simp only [Option.some.injEq] at h; subst h
    exact run_equalIn_bool w d t _ _ ht
  · obtain ⟨s, hs, _, rfl⟩ := ha.str_inv
    obtain ⟨s', hs', _, rfl⟩ := hb.str_inv
    simp only [Option.some.injEq] at h; subst h
    rw [run_equalIn_string w d t _ _ ht, strEq, hs, hs']
  · cases h
def leavesEq : List EqT → List AV → List AV → Option Bool
  | [], [], [] => some true
  | t :: ts, a :: l, b :: m => (match leafEq t a b with
    | some r => (match leavesEq ts l m with
      | some s => some (r && s)
      | none => none)
    | none => none)
  | _, _, _ => none
def FieldsT (P : Program) : Nat → List Field → List EqT → Prop
  | _, [], [] => True
  | i, f :: fs, t :: ts => f.name ≠ "_" ∧ f.offset = i ∧ leafT P f.type t ∧ FieldsT P (i + 1) fs ts
  | _, _, _ => False
theorem leafT_agg {P : Program} {t : TypeId} {et : EqT} (h : leafT P t et) : ∃ d, P.underlying t = some d ∧ isAggD d = false := by
  cases et with
  | int => obtain ⟨k, hk⟩ := h; exact ⟨_, hk, rfl⟩
  | bool => exact ⟨_, h, rfl⟩
  | str => exact ⟨_, h, rfl⟩
  | _ => exact h.elim
theorem run_part_leaf {P : Program} {t : TypeId} {et : EqT} (h : leafT P t et) {vs : Array Value} {o : Nat} {v : Value} (hv : vs[o]? = some v) (w : World) : (part t vs o).run P w = .ok v w := by
  obtain ⟨d, hd, ha⟩ := leafT_agg h
  simp [part, run_isAggD hd, ha, hv]
theorem eqFields_ok {P : Program} {d : Nat} {xs ys : Array Value} {w : World} : ∀ (ts : List EqT) (fs : List Field) (i : Nat) (l m : List AV) (r : Bool), FieldsT P i fs ts → leavesEq ts l m = some r →
    VsRel σ l (xs.toList.drop i) → VsRel σ m (ys.toList.drop i) → (Op.eqFields (d + 1) xs ys fs).run P w = .ok r w
  | [], [], i, l, m, r, _, h, _, _ => by
    cases l <;> cases m <;> simp [leavesEq] at h
    subst h; simp [Op.eqFields]
  | t :: ts, f :: fs, i, l, m, r, hf, h, hl, hm => by
    obtain ⟨hn, ho, ht, hrest⟩ := hf
    cases l with
    | nil => cases m <;> simp [leavesEq] at h
    | cons a l => cases m with
      | nil => simp [leavesEq] at h
      | cons b m =>
        simp only [leavesEq] at h
        split at h
        · rename_i r1 hr1
          split at h
          · rename_i r2 hr2
            simp only [Option.some.injEq] at h
            obtain ⟨va, hva, ha⟩ := hl.get 0 (a := a) rfl
            obtain ⟨vb, hvb, hb⟩ := hm.get 0 (a := b) rfl
            have hva' : xs[f.offset]? = some va := by rw [ho]; simpa using hva
            have hvb' : ys[f.offset]? = some vb := by rw [ho]; simpa using hvb
            have ih := eqFields_ok (d := d) (w := w) ts fs (i + 1) l m r2 hrest hr2
              (by have := hl.drop 1; simpa [Nat.add_comm] using this) (by have := hm.drop 1; simpa [Nat.add_comm] using this)
            simp only [Op.eqFields, if_pos hn, Sem.run_bind, run_part_leaf ht hva', run_part_leaf ht hvb', Result.andThen_ok, leafEq_ok hr1 ht ha hb d w]
            subst h
            cases r1
            · simp
            · simp [ih]
          · cases h
        · cases h
  | [], _ :: _, i, l, m, r, hf, _, _, _ => by simp [FieldsT] at hf
  | _ :: _, [], i, l, m, r, hf, _, _, _ => by simp [FieldsT] at hf
def ptrEq (A : AW) (b : Ix) (o : Nat) (b' : Ix) (o' : Nat) : Option Bool :=
  if b = b' then some (Nat.beq o o') else
  match A.heap.get b, A.heap.get b' with
  | some (.cells _ _ _ true), some (.cells _ _ _ true) => some false
  | _, _ => none
theorem ptrEq_ok {b b' : Ix} {o o' : Nat} {r : Bool} (h : ptrEq A b o b' o' = some r) (hw : WRel X σ A w) {c c' : Nat} (hc : σ b = some c) (hc' : σ b' = some c') :
    (sameAddr ⟨c, o, none⟩ ⟨c', o', none⟩).run X.P w = .ok r w := by
  unfold ptrEq at h
  split at h
  · rename_i hb; subst hb
    have : c = c' := by rw [hc] at hc'; exact Option.some.inj hc'
    subst this
    simp only [Option.some.injEq] at h; subst h
    simp [sameAddr, beq_decide]
    by_cases ho : o = o'
    · subst ho; simp
    · simp [ho]
  · rename_i hne
    split at h
    · rename_i h1 h2
      simp only [Option.some.injEq] at h; subst h
      obtain ⟨d, cs, fr, hd, hO, _, _, _, hcl⟩ := hw.cells h1
      obtain ⟨d', cs', fr', hd', hO', _, _, _, hcl'⟩ := hw.cells h2
      have e1 : d = c := by rw [hc] at hd; exact (Option.some.inj hd).symm
      have e2 : d' = c' := by rw [hc'] at hd'; exact (Option.some.inj hd').symm
      subst e1 e2
      have hf := hcl rfl
      have hf' := hcl' rfl
      subst hf hf'
      have hdd : d ≠ d' := fun e => hne (hw.inj b b' _ _ d h1 h2 hc (e ▸ hc'))
      have f1 : ∀ o, w.frozen? ⟨d, o, none⟩ = false := fun o => by simp [World.frozen?, hO]
      have f2 : ∀ o, w.frozen? ⟨d', o, none⟩ = false := fun o => by simp [World.frozen?, hO']
      simp [sameAddr, hdd, f1, f2, noView, viewAt, World.shape?, hO, hO', mayBeOne, stringish]
    · cases h
def eqV (A : AW) : EqT → AV → AV → Option Bool
  | .ptr, .nptr, .nptr => some true
  | .ptr, .nptr, .ptr _ _ => some false
  | .ptr, .ptr _ _, .nptr => some false
  | .ptr, .ptr b o, .ptr b' o' => ptrEq A b o b' o'
  | .iface, .niface, .niface => some true
  | .iface, .niface, .iface _ _ => some false
  | .iface, .iface _ _, .niface => some false
  | .iface, .iface t _, .iface u _ => if t = u then none else some false
  | .sl, .nslice, .nslice => some true
  | .sl, .nslice, .slice .. => some false
  | .sl, .slice .., .nslice => some false
  | .mp, .nmap, .nmap => some true
  | .mp, .nmap, .map _ => some false
  | .mp, .map _, .nmap => some false
  | .fn, .nfunc, .nfunc => some true
  | .fn, .nfunc, .func .. => some false
  | .fn, .func .., .nfunc => some false
  | .agg ts, .agg l, .agg m => leavesEq ts l m
  | t, a, b => leafEq t a b
def EqTy (P : Program) (t : TypeId) : EqT → Prop
  | .ptr => ∃ e i, P.underlying t = some (.pointer e) ∧ P.info? e = some i ∧ i.size ≠ 0
  | .iface => ∃ ms, P.underlying t = some (.interface ms)
  | .sl => ∃ e, P.underlying t = some (.slice e)
  | .mp => ∃ k e, P.underlying t = some (.map k e)
  | .fn => ∃ a b c, P.underlying t = some (.func a b c)
  | .agg ts => (∃ fs, P.underlying t = some (.struct fs) ∧ P.stoodInHeld t = false ∧ FieldsT P 0 fs.toList ts) ∨
      (∃ e i et, P.underlying t = some (.array 2 e) ∧ P.info? e = some i ∧ i.size = 1 ∧ ts = [et, et] ∧ leafT P e et)
  | et => leafT P t et
theorem eq_ptr {P : Program} {t e : TypeId} {i : TypeInfo} (hu : P.underlying t = some (.pointer e)) (hi : P.info? e = some i) (hs : i.size ≠ 0) (d : Nat) (w : World) :
    (Op.equalIn (d + 1) t (.pointer none) (.pointer none)).run P w = .ok true w ∧
    (∀ a, (Op.equalIn (d + 1) t (.pointer none) (.pointer (some a))).run P w = .ok false w) ∧
    (∀ a, (Op.equalIn (d + 1) t (.pointer (some a)) (.pointer none)).run P w = .ok false w) ∧
    (∀ a b, (Op.equalIn (d + 1) t (.pointer (some a)) (.pointer (some b))).run P w = (sameAddr a b).run P w) := by
  refine ⟨?_, fun a => ?_, fun a => ?_, fun a b => ?_⟩ <;> simp only [Op.equalIn, Sem.run_bind, run_underlying hu, Result.andThen_ok, Sem.run_pure, Option.isNone_none, Option.isNone_some, sizeOf, typeInfo, run_program, hi]
  simp [hs]
theorem eq_iface {P : Program} {t : TypeId} {ms : Array (String × TypeId)} (hu : P.underlying t = some (.interface ms)) (d : Nat) (w : World) :
    (Op.equalIn (d + 1) t .nilIface .nilIface).run P w = .ok true w ∧
    (∀ x v, (Op.equalIn (d + 1) t .nilIface (.iface x v)).run P w = .ok false w) ∧
    (∀ x v, (Op.equalIn (d + 1) t (.iface x v) .nilIface).run P w = .ok false w) ∧
    (∀ x v y u, x ≠ y → (Op.equalIn (d + 1) t (.iface x v) (.iface y u)).run P w = .ok false w) := by
  refine ⟨?_, fun x v => ?_, fun x v => ?_, fun x v y u h => ?_⟩ <;> simp only [Op.equalIn, Sem.run_bind, run_underlying hu, Result.andThen_ok, Sem.run_pure, Sem.run_ite, ne_eq, not_false_eq_true, if_true]
  rw [if_pos h]
theorem eq_slice {P : Program} {t e : TypeId} (hu : P.underlying t = some (.slice e)) (d : Nat) (w : World) :
    (∀ a n c, (Op.equalIn (d + 1) t (.slice none 0 0) (.slice a n c)).run P w = .ok a.isNone w) ∧
    (∀ a n c, (Op.equalIn (d + 1) t (.slice (some a) n c) (.slice none 0 0)).run P w = .ok false w) := by
  refine ⟨fun a n c => ?_, fun a n c => ?_⟩ <;> simp only [Op.equalIn, Sem.run_bind, run_underlying hu, Result.andThen_ok, Sem.run_pure]
theorem eq_map {P : Program} {t k e : TypeId} (hu : P.underlying t = some (.map k e)) (d : Nat) (w : World) :
    (∀ a, (Op.equalIn (d + 1) t (.map none) (.map a)).run P w = .ok a.isNone w) ∧
    (∀ a, (Op.equalIn (d + 1) t (.map (some a)) (.map none)).run P w = .ok false w) := by
  refine ⟨fun a => ?_, fun a => ?_⟩ <;> simp only [Op.equalIn, Sem.run_bind, run_underlying hu, Result.andThen_ok, Sem.run_pure]
theorem eq_func {P : Program} {t : TypeId} {a b : Array TypeId} {c : Bool} (hu : P.underlying t = some (.func a b c)) (d : Nat) (w : World) :
    (Op.equalIn (d + 1) t .nilFunc .nilFunc).run P w = .ok true w ∧
    (∀ f p q, (Op.equalIn (d + 1) t .nilFunc (.func f p q)).run P w = .ok false w) ∧
    (∀ f p q, (Op.equalIn (d + 1) t (.func f p q) .nilFunc).run P w = .ok false w) := by
  refine ⟨?_, fun f p q => ?_, fun f p q => ?_⟩ <;> simp only [Op.equalIn, Sem.run_bind, run_underlying hu, Result.andThen_ok, Sem.run_pure]
theorem leavesEq_length : ∀ {ts : List EqT} {l m : List AV} {r : Bool}, leavesEq ts l m = some r → l.length = ts.length ∧ m.length = ts.length
  | [], [], [], _, _ => ⟨rfl, rfl⟩
  | [], [], _ :: _, _, h => by simp [leavesEq] at h
  | [], _ :: _, _, _, h => by simp [leavesEq] at h
  | _ :: _, [], _, _, h => by simp [leavesEq] at h
  | _ :: _, _ :: _, [], _, h => by simp [leavesEq] at h
  | t :: ts, a :: l, b :: m, r, h => by
    simp only [leavesEq] at h
    split at h
    · split at h
      · rename_i h2
        have := leavesEq_length h2
        simp [this.1, this.2]
      · cases h
    · cases h
theorem eq_array2 {P : Program} {t e : TypeId} {i : TypeInfo} (hu : P.underlying t = some (.array 2 e)) (hi : P.info? e = some i) (hs : i.size = 1) {et : EqT} (hl : leafT P e et) {vs us : Array Value} {l m : List AV} {r : Bool}
    (h : leavesEq [et, et] l m = some r) (hv : VsRel σ l vs.toList) (hu' : VsRel σ m us.toList) (d : Nat) (w : World) :
    (Op.equalIn (d + 2) t (.agg vs) (.agg us)).run P w = .ok r w := by
  obtain ⟨n1, n2⟩ := leavesEq_length h
  match l, m, n1, n2 with
  | [a, a'], [b, b'], _, _ =>
    simp only [leavesEq] at h
    split at h
    · rename_i r1 hr1
      split at h
      · rename_i r2 hr2
        split at hr2
        · rename_i r3 hr3
          simp only [Option.some.injEq] at hr2 h
          obtain ⟨va, hva, ha⟩ := hv.get 0 (a := a) rfl
          obtain ⟨va', hva', ha'⟩ := hv.get 1 (a := a') rfl
          obtain ⟨vb, hvb, hb⟩ := hu'.get 0 (a := b) rfl
          obtain ⟨vb', hvb', hb'⟩ := hu'.get 1 (a := b') rfl
          have p1 := run_part_leaf hl (vs := vs) (o := 0) (v := va) (by simpa using hva) w
          have p2 := run_part_leaf hl (vs := vs) (o := 1) (v := va') (by simpa using hva') w
          have p3 := run_part_leaf hl (vs := us) (o := 0) (v := vb) (by simpa using hvb) w
          have p4 := run_part_leaf hl (vs := us) (o := 1) (v := vb') (by simpa using hvb') w
          have e1 := leafEq_ok hr1 hl ha hb d w
          have e2 := leafEq_ok hr3 hl ha' hb' d w
          obtain ⟨d', hd'⟩ : ∃ d', d' = d + 1 := ⟨_, rfl⟩
          rw [← hd'] at e1 e2
          rw [show d + 2 = d' + 1 from by omega]
          clear hd'
          simp only [Op.equalIn, Sem.run_bind, run_underlying hu, Result.andThen_ok, sizeOf, typeInfo, run_program, hi, hs, Sem.run_pure,
            Std.Legacy.Range.forIn_eq_forIn_range', Std.Legacy.Range.size, Nat.sub_zero, Nat.add_sub_cancel, Nat.div_one, List.range'_succ, List.range'_zero, List.forIn_cons, List.forIn_nil,
            Nat.mul_one, Nat.zero_add, p1, p2, p3, p4, e1, e2]
          subst h hr2
          cases r1 <;> cases r3 <;> simp only [Bool.not_true, Bool.not_false, if_true, Bool.false_eq_true, if_false, Sem.run_pure, Result.andThen_ok, Sem.run_bind, p2, p4, e2, Bool.and_true, Bool.and_false, Bool.true_and, Bool.false_and]
        · cases hr2
      · cases h
    · cases h
theorem eqV_ok {et : EqT} {a b : AV} {r : Bool} (h : eqV A et a b = some r) (hw : WRel X σ A w) {t : TypeId} (ht : EqTy X.P t et) {va vb : Value} (ha : VRel σ a va) (hb : VRel σ b vb) (d : Nat) :
    (Op.equalIn (d + 2) t va vb).run X.P w = .ok r w := by
  unfold eqV at h
  split at h
  · obtain ⟨e, i, hu, hi, hs⟩ := ht
    cases ha; cases hb
    simp only [Option.some.injEq] at h; subst h
    exact (eq_ptr hu hi hs _ _).1
  · obtain ⟨e, i, hu, hi, hs⟩ := ht
    cases ha; cases hb
    simp only [Option.some.injEq] at h; subst h
    exact (eq_ptr hu hi hs _ _).2.1 _
  · obtain ⟨e, i, hu, hi, hs⟩ := ht
    cases ha; cases hb
    simp only [Option.some.injEq] at h; subst h
    exact (eq_ptr hu hi hs _ _).2.2.1 _
  · obtain ⟨e, i, hu, hi, hs⟩ := ht
    obtain ⟨c, hc, rfl⟩ := ha.ptr_inv
    obtain ⟨c', hc', rfl⟩ := hb.ptr_inv
    rw [(eq_ptr hu hi hs _ _).2.2.2]
    exact ptrEq_ok h hw hc hc'
  · obtain ⟨ms, hu⟩ := ht
    cases ha; cases hb
    simp only [Option.some.injEq] at h; subst h
    exact (eq_iface hu _ _).1
  · obtain ⟨ms, hu⟩ := ht
    cases ha; cases hb
    simp only [Option.some.injEq] at h; subst h
    exact (eq_iface hu _ _).2.1 _ _
  · obtain ⟨ms, hu⟩ := ht
    cases ha; cases hb
    simp only [Option.some.injEq] at h; subst h
    exact (eq_iface hu _ _).2.2.1 _ _
  · obtain ⟨ms, hu⟩ := ht
    split at h
    · cases h
    · rename_i htu
      cases ha; cases hb
      simp only [Option.some.injEq] at h; subst h
      exact (eq_iface hu _ _).2.2.2 _ _ _ _ htu
  · obtain ⟨e, hu⟩ := ht
    cases ha; cases hb
    simp only [Option.some.injEq] at h; subst h
    exact (eq_slice hu _ _).1 _ _ _
  · obtain ⟨e, hu⟩ := ht
    cases ha; cases hb
    simp only [Option.some.injEq] at h; subst h
    exact (eq_slice hu _ _).1 _ _ _
  · obtain ⟨e, hu⟩ := ht
    cases ha; cases hb
    simp only [Option.some.injEq] at h; subst h
    exact (eq_slice hu _ _).2 _ _ _
  · obtain ⟨kk, e, hu⟩ := ht
    cases ha; cases hb
    simp only [Option.some.injEq] at h; subst h
    exact (eq_map hu _ _).1 _
  · obtain ⟨kk, e, hu⟩ := ht
    cases ha; cases hb
    simp only [Option.some.injEq] at h; subst h
    exact (eq_map hu _ _).1 _
  · obtain ⟨kk, e, hu⟩ := ht
    cases ha; cases hb
    simp only [Option.some.injEq] at h; subst h
    exact (eq_map hu _ _).2 _
  · obtain ⟨a1, b1, c1, hu⟩ := ht
    cases ha; cases hb
    simp only [Option.some.injEq] at h; subst h
    exact (eq_func hu _ _).1
  · obtain ⟨a1, b1, c1, hu⟩ := ht
    cases ha; cases hb
    simp only [Option.some.injEq] at h; subst h
    exact (eq_func hu _ _).2.1 _ _ _
  · obtain ⟨a1, b1, c1, hu⟩ := ht
    cases ha; cases hb
    simp only [Option.some.injEq] at h; subst h
    exact (eq_func hu _ _).2.2 _ _ _
  · rcases ht with ⟨fs, hu, hp, hf⟩ | ⟨e, i, et, hu, hi, hs, rfl, hl⟩
    · obtain ⟨vs, hv, rfl⟩ := ha.agg_inv
      obtain ⟨us, hu', rfl⟩ := hb.agg_inv
      have hfs : X.P.fieldsOf t = fs := by simp [Program.fieldsOf, hu]
      rw [run_equalIn_struct w (d + 1) t vs us (by rw [hfs]; exact hu) hp, hfs]
      exact eqFields_ok (σ := σ) _ _ 0 _ _ _ hf h (by simpa using hv) (by simpa using hu')
    · obtain ⟨vs, hv, rfl⟩ := ha.agg_inv
      obtain ⟨us, hu', rfl⟩ := hb.agg_inv
      exact eq_array2 hu hi hs hl h hv hu' d w
  · refine leafEq_ok h ?_ ha hb _ w
    cases et <;> first | exact ht | (simp [leafEq] at h)
end Go.Abs
end
section
namespace Go.Abs
variable {X : Ctx} {σ : Sig} {A : AW} {w : World} {α : Type}
def u8s : List Nat → List AV
  | [] => []
  | b :: l => .int .u8 (.ofNat b) :: u8s l
def srcK (sz : Nat) (y : AV) (A : AW) (k : Nat → List AV → Option α) : Option α :=
  match y with
  | .nslice => k 0 []
  | .slice b o len _ _ => (match A.heap.get b with
    | some (.cells t _ _ _) => gatherK t o (len * sz) fun l => k len l
    | _ => none)
  | .str n l => (match Nat.beq sz 1 with
    | true => listK (u8s l) fun l => k n l
    | false => none)
  | _ => none
theorem u8s_rel (s : ByteArray) : VsRel σ (u8s (strBytes s)) (s.data.toList.map fun b => Value.int .u8 b.toNat) := by
  unfold strBytes
  induction s.data.toList with
  | nil => exact .nil
  | cons b l ih => exact .cons (.int _ _) ih
theorem srcK_ok {sz : Nat} {y : AV} {k : Nat → List AV → Option α} {r : α} (h : srcK sz y A k = some r) :
    ∃ n l, k n l = some r ∧ ∀ (X : Ctx) σ w vy, WRel X σ A w → VRel σ y vy → ∃ vs : List Value, VsRel σ l vs ∧ vs.length = n * sz ∧
      ∀ w', w'.heap = w.heap → (Builtin.lenOf vy).run X.P w' = .ok n w' ∧ (Builtin.firstCells sz n vy).run X.P w' = .ok vs.toArray w' := by
  unfold srcK at h
  split at h
  · refine ⟨0, [], h, fun X σ w vy hw hy => ⟨[], .nil, by simp, fun w' _ => ?_⟩⟩
    cases hy
    simp [Builtin.lenOf, Builtin.firstCells]
  · rename_i b o len cap ex
    split at h
    · rename_i t m e cl hb
      obtain ⟨l, hk, hl, hg⟩ := gatherK_ok h
      refine ⟨len, l, hk, fun X σ w vy hw hy => ?_⟩
      obtain ⟨c, cap', hc, _, _, _, _, rfl⟩ := hy.slice_inv
      obtain ⟨c', cs, fr, hc', hO, _, _, ht, _⟩ := hw.cells hb
      have : c' = c := by rw [hc] at hc'; exact (Option.some.inj hc').symm
      subst this
      obtain ⟨vs, h1, h2, h3⟩ := ht.row hl hg
      refine ⟨vs, h1, h2, fun w' hw' => ⟨by simp [Builtin.lenOf], ?_⟩⟩
      exact run_firstCells_some (P := X.P) w' sz len ⟨c', o, none⟩ len cap' vs h2 (fun j v hv => by
        rw [addr_add, cell_of (w := w') (by rw [hw']; exact hO)]; exact h3 j v hv)
    · cases h
  · split at h
    · rename_i hsz
      have hsz := Nat.eq_of_beq_eq_true hsz
      subst hsz
      simp only [listK_eq] at h
      refine ⟨_, _, h, fun X σ w vy hw hy => ?_⟩
      obtain ⟨s, hs, hn, rfl⟩ := hy.str_inv
      subst hs hn
      refine ⟨_, u8s_rel s, by simp, fun w' _ => ⟨by simp [Builtin.lenOf], ?_⟩⟩
      simp only [Builtin.firstCells, Sem.run_pure]
      congr 1
      apply Array.ext'
      simp [ByteArray.data_extract]
    · cases h
  · cases h
theorem zeroCells_size (z : Array Value) (n : Nat) : (Builtin.zeroCells z n).size = n * z.size := by simp [Builtin.zeroCells]
structure AppT (P : Program) (t u e : TypeId) (sz bytes : Nat) : Prop where
  slice : P.underlying t = some (.slice e)
  src : P.underlying u = some .string ∨ ∃ e', P.underlying u = some (.slice e')
  info : ∃ i z, P.info? e = some i ∧ i.zero = some z ∧ i.size = sz ∧ i.bytes = bytes ∧ z.cells.size = sz
theorem append_in {P : Program} {t u e ty : TypeId} {sz bytes : Nat} (hT : AppT P t u e sz bytes) {base : Option Addr} {sLen sCap n : Nat} {vy : Value} {news : List Value} {w : World}
    (hlen : (Builtin.lenOf vy).run P w = .ok n w) (hnews : (Builtin.firstCells sz n vy).run P w = .ok news.toArray w) (hfit : sLen + n ≤ sCap) :
    (Builtin.append_ #[t, u] ty #[.slice base sLen sCap, vy]).run P w =
      (match base with
       | some a => (storeCells (a.add (sLen * sz)) news).run P w
       | none => .ok () w).andThen fun _ w' => .ok (.slice base (sLen + n) sCap) w' := by
  obtain ⟨i, z, hi, hz, hs, hb, hzz⟩ := hT.info
  subst hs
  rcases hT.src with hd | ⟨e', hd⟩ <;> cases base <;>
    simp [Builtin.append_, run_underlying hT.slice, run_underlying hd, sizeOf, typeInfo, hi, hlen, hnews, hfit]
theorem append_grow {P : Program} {t u e ty : TypeId} {sz bytes : Nat} (hT : AppT P t u e sz bytes) {base : Option Addr} {sLen sCap n : Nat} {vy : Value} {news olds : List Value} {w : World}
    (hlen : (Builtin.lenOf vy).run P w = .ok n w) (hnews : (Builtin.firstCells sz n vy).run P w.drew = .ok news.toArray w.drew)
    (holds : (Builtin.firstCells sz sLen (.slice base sLen sCap)).run P w.drew = .ok olds.toArray w.drew)
    (hfit : ¬ sLen + n ≤ sCap) (hb : 2 * (sLen + n) * bytes ≤ 281474976710656) (h63 : sLen + n < 9223372036854775808) :
    ∃ newCap, sLen + n ≤ newCap ∧ newCap < 9223372036854775808 ∧ ∃ z : Value, z.cells.size = sz ∧ (Builtin.append_ #[t, u] ty #[.slice base sLen sCap, vy]).run P w =
      .ok (.slice (some ⟨w.heap.size, 0, none⟩) (sLen + n) newCap) (w.drew.alloc (.cells (olds ++ news ++ (Builtin.zeroCells z.cells (newCap - (sLen + n))).toList).toArray e)) := by
  obtain ⟨i, z, hi, hz, hs, hby, hzz⟩ := hT.info
  refine ⟨grownCap w (sLen + n) sCap e, ?_, ?_, z, hzz, ?_⟩
  · unfold grownCap Question.cut; simp only []; omega
  · unfold grownCap Question.cut; simp only []
    have := Nat.mod_lt (w.tape w.drawn (.appendCap (sLen + n) sCap e)) (show 0 < 2 ^ 63 - (sLen + n) by omega)
    omega
  · subst hs hby
    have h48 : ¬ (281474976710656 < Builtin.nextslicecap (sLen + n) sCap * i.bytes) := by
      have := nextslicecap_le (need := sLen + n) (old := sCap) (by omega)
      have := Nat.mul_le_mul_right i.bytes this
      omega
    have h63' : ¬ ((9223372036854775807 : Int) < (sLen : Int) + (n : Int)) := by omega
    rcases hT.src with hd | ⟨e', hd⟩ <;>
    · simp [Builtin.append_, run_underlying hT.slice, run_underlying hd, sizeOf, typeInfo, zeroValue, hi, hz, hlen, hfit, h48, h63', Question.forced, hnews, holds, newRow, grownCap]
      congr 2
      apply Array.ext'
      simp
theorem grown_ext (hw : WRel X σ A w) {l m : List AV} {olds news : List Value} (ho : VsRel σ l olds) (hn : VsRel σ m news) {rest : List Value} {e : TypeId} {t : T AV} {n : Nat}
    (ht : TRel σ t (olds ++ news).toArray) (hk : ∀ x v, t.get x = some v → x.val < n) (hl : n ≤ (olds ++ news).length) :
    Go.Abs.Ext X σ A w (σ.put A.next w.heap.size (olds ++ news ++ rest).length) (A.new (.cells t n e true)) (w.drew.alloc (.cells (olds ++ news ++ rest).toArray e)) := by
  have h1 := Ext.drawn hw (w.drawn + 1)
  have h2 := (newRow_ok (X := X) (σ := σ) (A := A) (w := w.drew) (cs := (olds ++ news ++ rest).toArray) (t := t) (n := n) h1.rel e (by simp at hl ⊢; omega) hk
    (by have := ht.more rest.toArray; simpa using this)).2
  exact h1.trans h2
def appK (e : TypeId) (sz bytes : Nat) (x : AV) (n : Nat) (news : List AV) (A : AW) (k : AV → AW → Option α) : Option α :=
  match x with
  | .nslice => (match Nat.beq n 0 with
    | true => k .nslice A
    | false => (match Nat.ble (2 * n * bytes) 281474976710656 && Nat.blt n 9223372036854775808 && Nat.blt 0 sz with
      | true => setRowK .nil 0 news fun t => natK (n * sz) fun m => A.newK (.cells t m e true) fun b A => k (.slice b 0 n n sz) A
      | false => none))
  | .slice b o len cap ex => (match Nat.ble (len + n) cap with
    | true => storeRowK b (o + len * sz) news A fun A => natK (len + n) fun len => k (.slice b o len cap ex) A
    | false => (match Nat.ble (2 * (len + n) * bytes) 281474976710656 && Nat.blt (len + n) 9223372036854775808 && Nat.blt 0 sz with
      | true => (match A.heap.get b with
        | some (.cells t m e' cl) => (match ex with
          | 0 => gatherK t o (len * sz) fun l => setRowK .nil 0 (l ++ news) fun t => natK (len + n) fun len => natK (len * sz) fun m =>
              A.newK (.cells t m e true) fun b A => k (.slice b 0 len len sz) A
          | _ + 1 => (match Nat.beq o 0 && Nat.beq m (len * sz) && Nat.beq ex sz && Nat.beq e e' && cl && allCells news with
            | true => setRowK t m news fun t => natK (len + n) fun len => natK (len * sz) fun m => T.setK none b A.heap fun h =>
                AW.newK ⟨h, A.next⟩ (.cells t m e true) fun b A => k (.slice b 0 len len sz) A
            | false => none))
        | _ => none)
      | false => none))
  | _ => none
structure AppRun (P : Program) (t u e ty : TypeId) (sz bytes : Nat) (vy : Value) (n : Nat) (news : List Value) (w : World) : Prop where
  inn : ∀ {base : Option Addr} {sLen sCap : Nat}, sLen + n ≤ sCap → (Builtin.append_ #[t, u] ty #[.slice base sLen sCap, vy]).run P w =
      (match base with
       | some a => (storeCells (a.add (sLen * sz)) news).run P w
       | none => .ok () w).andThen fun _ w' => .ok (.slice base (sLen + n) sCap) w'
  grow : ∀ {base : Option Addr} {sLen sCap : Nat} {olds : List Value}, (Builtin.firstCells sz sLen (.slice base sLen sCap)).run P w.drew = .ok olds.toArray w.drew →
    ¬ sLen + n ≤ sCap → 2 * (sLen + n) * bytes ≤ 281474976710656 → sLen + n < 9223372036854775808 →
    ∃ newCap, sLen + n ≤ newCap ∧ newCap < 9223372036854775808 ∧ ∃ z : Value, z.cells.size = sz ∧ (Builtin.append_ #[t, u] ty #[.slice base sLen sCap, vy]).run P w =
      .ok (.slice (some ⟨w.heap.size, 0, none⟩) (sLen + n) newCap) (w.drew.alloc (.cells (olds ++ news ++ (Builtin.zeroCells z.cells (newCap - (sLen + n))).toList).toArray e))
theorem appRun_src {P : Program} {t u e ty : TypeId} {sz bytes : Nat} (hT : AppT P t u e sz bytes) {vy : Value} {n : Nat} {news : List Value} {w : World}
    (h : ∀ w', w'.heap = w.heap → (Builtin.lenOf vy).run P w' = .ok n w' ∧ (Builtin.firstCells sz n vy).run P w' = .ok news.toArray w') : AppRun P t u e ty sz bytes vy n news w where
  inn hfit := append_in hT (h w rfl).1 (h w rfl).2 hfit
  grow holds hfit hb h63 := append_grow hT (h w rfl).1 (h w.drew rfl).2 holds hfit hb h63
theorem appRun_zero {P : Program} {t u e ty : TypeId} {sz bytes : Nat} {i : TypeInfo} {z : Value} {kd : IntKind} (ht : P.underlying t = some (.slice e)) (hu : P.underlying u = some (.int kd)) (hi : P.info? e = some i) (hz : i.zero = some z)
    (hs : i.size = sz) (hby : i.bytes = bytes) (hzz : z.cells.size = sz) {n : Nat} (hn : n < 9223372036854775808) (hb : n * bytes ≤ 281474976710656) (w : World) :
    AppRun P t u e ty sz bytes (.int .i64 n) n (Builtin.zeroCells z.cells n).toList w := by
  subst hs hby
  have hw : IntKind.i64.wrap (n : Int) = (n : Int) := IntWalk.i64_in _ (by constructor <;> omega)
  have hneg : ¬ ((n : Int) < 0) := by omega
  have h48 : ¬ ((281474976710656 : Int) < (n : Int) * (i.bytes : Int)) := by
    rw [← Int.natCast_mul]; omega
  have hz0 : n * i.size = 0 → Builtin.zeroCells z.cells n = #[] := by
    intro h; apply Array.toList_inj.1; simp [Builtin.zeroCells, hzz, h]
  refine ⟨fun {base sLen sCap} hfit => ?_, fun {base sLen sCap olds} holds hfit hb2 h63 => ?_⟩
  · by_cases h0 : n * i.size = 0
    · cases base <;> simp [Builtin.append_, run_underlying ht, run_underlying hu, sizeOf, typeInfo, hi, asInt, asIntOf, hw, hneg, h48, hfit, h0, hz0 h0]
    · cases base <;> simp [Builtin.append_, run_underlying ht, run_underlying hu, sizeOf, typeInfo, zeroValue, hi, hz, asInt, asIntOf, hw, hneg, h48, hfit, h0]
  · refine ⟨grownCap w (sLen + n) sCap e, ?_, ?_, z, hzz, ?_⟩
    · unfold grownCap Question.cut; simp only []; omega
    · unfold grownCap Question.cut; simp only []
      have := Nat.mod_lt (w.tape w.drawn (.appendCap (sLen + n) sCap e)) (show 0 < 2 ^ 63 - (sLen + n) by omega)
      omega
    · have h48' : ¬ (281474976710656 < Builtin.nextslicecap (sLen + n) sCap * i.bytes) := by
        have := nextslicecap_le (need := sLen + n) (old := sCap) (by omega)
        have := Nat.mul_le_mul_right i.bytes this
        omega
      have h63' : ¬ ((9223372036854775807 : Int) < (sLen : Int) + (n : Int)) := by omega
      by_cases h0 : n * i.size = 0
      · simp [Builtin.append_, run_underlying ht, run_underlying hu, sizeOf, typeInfo, zeroValue, hi, hz, asInt, asIntOf, hw, hneg, h48, hfit, h48', h63', Question.forced, holds, newRow, grownCap, h0, hz0 h0]
        congr 2
        apply Array.ext'
        simp
      · simp [Builtin.append_, run_underlying ht, run_underlying hu, sizeOf, typeInfo, zeroValue, hi, hz, asInt, asIntOf, hw, hneg, h48, hfit, h48', h63', Question.forced, holds, newRow, grownCap, h0]
        congr 2
        apply Array.ext'
        simp
theorem appK_ok {e : TypeId} {sz bytes : Nat} {x : AV} {n : Nat} {news : List AV} {k : AV → AW → Option α} {r : α} (h : appK e sz bytes x n news A k = some r) :
    ∃ v A', k v A' = some r ∧ ∀ (X : Ctx) σ w vx vy t u ty vs, WRel X σ A w → VRel σ x vx → VsRel σ news vs → vs.length = n * sz → AppRun X.P t u e ty sz bytes vy n vs w →
      Gives X σ A w (Builtin.append_ #[t, u] ty #[vx, vy]) v A' := by
  unfold appK at h
  split at h
  · split at h
    · rename_i hn
      have hn := Nat.eq_of_beq_eq_true hn
      subst hn
      refine ⟨_, _, h, fun X σ w vx vy t u ty vs hw hx hl hlen hR => ?_⟩
      cases hx
      have := hR.inn (base := none) (sLen := 0) (sCap := 0) (by omega)
      exact ⟨σ, w, _, this, Ext.refl hw, .nslice⟩
    · rename_i hn
      split at h
      · rename_i hcond
        simp only [setRowK_eq, natK_eq, newK_eq] at h
        simp only [Bool.and_eq_true] at hcond
        have c1 := Nat.le_of_ble_eq_true hcond.1.1
        have c2 : n < 9223372036854775808 := by have := hcond.1.2; rw [blt_decide] at this; exact of_decide_eq_true this
        have c3 : 0 < sz := by have := hcond.2; rw [blt_decide] at this; exact of_decide_eq_true this
        have hn0 : n ≠ 0 := fun e0 => by subst e0; simp at hn
        refine ⟨_, _, h, fun X σ w vx vy t u ty vs hw hx hl hlen hR => ?_⟩
        cases hx
        obtain ⟨newCap, q1, q2, z, hz, hrun⟩ := hR.grow (base := none) (sLen := 0) (sCap := 0) (olds := []) (by simp [Builtin.firstCells]) (by omega) (by simpa using c1) (by simpa using c2)
        simp only [Nat.zero_add, List.nil_append] at hrun q1 q2
        have hext := grown_ext (X := X) (σ := σ) (A := A) (w := w) hw (l := []) (olds := []) .nil hl (rest := (Builtin.zeroCells z.cells (newCap - n)).toList) (e := e) (t := setRow .nil 0 news) (n := n * sz)
          (by simpa using TRel.ofList hl) (fun x v hx => by have := ofList_lt hx; rw [hl.length, hlen] at this; exact this) (by simp [hlen])
        refine ⟨_, _, _, hrun, by simpa using hext, .slice (Sig.put_same _ _ _ _) q1 (fun e => by omega) (fun _ => ?_) q2⟩
        simp only [Nat.zero_add, List.nil_append]
        rw [Sig.put_sz]
        simp [hlen, zeroCells_size, hz]
        rw [← Nat.add_mul]; congr 1; omega
      · cases h
  · rename_i b o len cap ex
    split at h
    · rename_i hfit
      have hfit := Nat.le_of_ble_eq_true hfit
      obtain ⟨A', hk, hnx, hA⟩ := storeRowK_ok h
      simp only [natK_eq] at hk
      refine ⟨_, _, hk, fun X σ w vx vy t u ty vs hw hx hl hlen hR => ?_⟩
      obtain ⟨c, cap', hc, g1, g2, g3, g4, rfl⟩ := hx.slice_inv
      obtain ⟨w', hst, hext⟩ := hA X σ w c vs hw hc hl
      have := hR.inn (base := some ⟨c, o, none⟩) (sLen := len) (sCap := cap') (by omega)
      simp only [addr_add, hst, Result.andThen_ok] at this
      exact ⟨σ, w', _, this, hext, .slice hc g1 g2 g3 g4⟩
    · rename_i hfit
      have hfit : ¬ (len + n ≤ cap) := fun hle => by rw [Nat.ble_eq_true_of_le hle] at hfit; cases hfit
      split at h
      · rename_i hcond
        simp only [Bool.and_eq_true] at hcond
        have c1 := Nat.le_of_ble_eq_true hcond.1.1
        have c2 : len + n < 9223372036854775808 := by have := hcond.1.2; rw [blt_decide] at this; exact of_decide_eq_true this
        have c3 : 0 < sz := by have := hcond.2; rw [blt_decide] at this; exact of_decide_eq_true this
        split at h
        · rename_i t m e' cl hb
          split at h
          · obtain ⟨l, hk, hll, hg⟩ := gatherK_ok h
            simp only [setRowK_eq, natK_eq, newK_eq] at hk
            refine ⟨_, _, hk, fun X σ w vx vy ty1 u ty vs hw hx hl hlen hR => ?_⟩
            obtain ⟨c, cap', hc, g1, g2, g3, g4, rfl⟩ := hx.slice_inv
            have hcc := g2 rfl
            subst hcc
            obtain ⟨c', cs, fr, hc', hO, _, _, ht, _⟩ := hw.cells hb
            have : c' = c := by rw [hc] at hc'; exact (Option.some.inj hc').symm
            subst this
            obtain ⟨olds, o1, o2, o3⟩ := ht.row hll hg
            have holds := run_firstCells_some (P := X.P) w.drew sz len ⟨c', o, none⟩ len cap' olds o2 (fun j v hv => by
              rw [addr_add, cell_of (w := w.drew) (e := e') (fr := fr) hO]; exact o3 j v hv)
            obtain ⟨newCap, q1, q2, z, hz, hrun⟩ := hR.grow (base := some ⟨c', o, none⟩) (sLen := len) (sCap := cap') holds hfit c1 c2
            have hext := grown_ext (X := X) (σ := σ) (A := A) (w := w) hw o1 hl (rest := (Builtin.zeroCells z.cells (newCap - (len + n))).toList) (e := e) (t := setRow .nil 0 (l ++ news)) (n := (len + n) * sz)
              (TRel.ofList (o1.append hl)) (fun x v hx => by have := ofList_lt hx; rw [List.length_append, o1.length, hl.length, o2, hlen, ← Nat.add_mul] at this; exact this) (by simp [hlen, o2, Nat.add_mul])
            refine ⟨_, _, _, hrun, hext, .slice (Sig.put_same _ _ _ _) q1 (fun e => by omega) (fun _ => ?_) q2⟩
            rw [Sig.put_sz]
            simp [hlen, o2, zeroCells_size, hz]
            rw [← Nat.add_mul, ← Nat.add_mul]; congr 1; omega
          · rename_i ex
            split at h
            · rename_i hcond2
              simp only [Bool.and_eq_true] at hcond2
              obtain ⟨⟨⟨⟨⟨d1, d2⟩, d3⟩, d4⟩, d5⟩, d6⟩ := hcond2
              have d1 := Nat.eq_of_beq_eq_true d1
              have d2 := Nat.eq_of_beq_eq_true d2
              have d3 : ex + 1 = sz := Nat.eq_of_beq_eq_true d3
              have d4 := Nat.eq_of_beq_eq_true d4
              subst d1 d2 d5 d4
              simp only [setRowK_eq, natK_eq, newK_eq, T.setK_eq] at h
              refine ⟨_, _, h, fun X σ w vx vy ty1 u ty vs hw hx hl hlen hR => ?_⟩
              obtain ⟨c, cap', hc, g1, g2, g3, g4, rfl⟩ := hx.slice_inv
              obtain ⟨c', cs, fr, hc', hO, hn, hkk, ht, hcl⟩ := hw.cells hb
              have : c' = c := by rw [hc] at hc'; exact (Option.some.inj hc').symm
              subst this
              have hfr := hcl rfl
              subst hfr
              have hsz : 0 + cap' * (ex + 1) = σ.sz c' := g3 (by simp)
              have hsize := hw.size b c' cs e _ hc hO
              have hkeys : ∀ x v, (setRow t (len * sz) news).get x = some v → x.val < (len + n) * sz := by
                intro x v hx
                rw [setRow_get] at hx
                rw [Nat.add_mul]
                split at hx
                · rename_i hin; rw [hl.length, hlen] at hin; omega
                · have := hkk x v hx; omega
              by_cases hin : len + n ≤ cap'
              ·
                have hfit2 : len * sz + vs.length ≤ cs.size := by
                  rw [hlen, ← Nat.add_mul, ← hsize, ← hsz, d3, Nat.zero_add]
                  exact Nat.mul_le_mul_right sz hin
                have hst := run_storeCells_at X.P c' (len * sz) e vs 0 cs w hO (by simpa using hfit2) (allCells_ok d6 hl)
                have hrun := hR.inn (base := some ⟨c', 0, none⟩) (sLen := len) (sCap := cap') hin
                simp only [addr_add, Nat.zero_add, hst, Result.andThen_ok] at hrun
                have hsegs := seg_size cs (len * sz) vs hfit2
                have hchg : Go.Abs.Ext X σ A w σ ⟨T.set (some (.cells (setRow t (len * sz) news) ((len + n) * sz) e true)) b A.heap, A.next⟩
                    (w.setRow c' (cs.toList.take (len * sz) ++ vs ++ cs.toList.drop (len * sz + vs.length)).toArray) := by
                  have hlt : c' < w.heap.size := (Array.getElem?_eq_some_iff.1 hO).1
                  have hv : w.heap[c'] = .cells cs e (0, 0) := (Array.getElem?_eq_some_iff.1 hO).2
                  refine Ext.change hw hb hc (O' := .cells _ e (0, 0)) (.cells ?_ hkeys (ht.setRow hl (fun j => seg_get cs (len * sz) vs hfit2 j)) (fun _ => rfl)) (fun d => ?_)
                    (fun cs₁ e₁ fr₁ h => by cases h; rw [hsegs]; exact hsize) (by simp [World.setRow]) rfl rfl rfl
                  · rw [hsegs, ← hsize, ← hsz, d3, Nat.zero_add]; exact Nat.mul_le_mul_right sz hin
                  · unfold World.setRow
                    by_cases hd : d = c'
                    · subst hd
                      simp only [if_true]
                      rw [Array.getElem?_modify, if_pos rfl, hO]; rfl
                    · simp only [hd, if_false]
                      rw [Array.getElem?_modify, if_neg (fun e => hd e.symm)]
                obtain ⟨c2', O2, hc2, hO2, hr2⟩ := hchg.rel.live b _ (T.get_set_same _ _ _)
                have : c2' = c' := by rw [hc] at hc2; exact (Option.some.inj hc2).symm
                subst this
                have hren := Ext.rename hchg.rel (T.get_set_same _ _ _) hc hO2 (hr2.mono (Sig.le_put _ _ hchg.rel.next_none fun _ _ => rfl))
                have hboth := hchg.trans hren
                refine ⟨σ.put A.next c2' (σ.sz c2'), _, _, hrun, ?_, .slice (Sig.put_same _ _ _ _) hin (fun e => by omega) (fun _ => ?_) g4⟩
                · have hset : T.set none b (T.set (some (AObj.cells (setRow t (len * sz) news) ((len + n) * sz) e true)) b A.heap) = T.set none b A.heap := T.set_set _ _ _ _
                  simp only [hset] at hboth
                  exact hboth
                · rw [Sig.put_sz, ← hsz, d3]
              ·
                have holds : (Builtin.firstCells sz len (.slice (some ⟨c', 0, none⟩) len cap')).run X.P w.drew = .ok (cs.toList.take (len * sz)).toArray w.drew :=
                  run_firstCells_some (P := X.P) w.drew sz len ⟨c', 0, none⟩ len cap' (cs.toList.take (len * sz)) (by simp; omega) (fun j v hv => by
                    rw [addr_add, cell_of (w := w.drew) (e := e) (fr := (0, 0)) hO]
                    rw [List.getElem?_take] at hv
                    split at hv
                    · simpa using hv
                    · cases hv)
                obtain ⟨newCap, q1, q2, z, hz, hrun⟩ := hR.grow (base := some ⟨c', 0, none⟩) (sLen := len) (sCap := cap') holds hin c1 c2
                have hfor := Ext.forget hw b
                have ht' : TRel σ (setRow t (len * sz) news) (cs.toList.take (len * sz) ++ vs).toArray := by
                  have h0 : TRel σ t (cs.toList.take (len * sz)).toArray := by
                    intro x v hx
                    obtain ⟨v', p1, p2⟩ := ht x v hx
                    have := hkk x v hx
                    refine ⟨v', ?_, p2⟩
                    simp [List.getElem?_take, this]
                    simpa using p1
                  refine h0.setRow hl (fun j => ?_)
                  have hlen2 : (cs.toList.take (len * sz)).length = len * sz := by simp; omega
                  simp only [List.getElem?_toArray]
                  rw [List.getElem?_append, hlen2]
                  by_cases hj : j < len * sz
                  · have : ¬ (len * sz ≤ j ∧ j < len * sz + vs.length) := by omega
                    rw [if_pos hj, if_neg this]
                  · rw [if_neg hj]
                    by_cases hj2 : j < len * sz + vs.length
                    · rw [if_pos ⟨by omega, hj2⟩]
                    · rw [if_neg (by omega), List.getElem?_eq_none (by omega), List.getElem?_eq_none (by omega)]
                have hnewx : Go.Abs.Ext X σ ⟨T.set none b A.heap, A.next⟩ w (σ.put A.next w.heap.size (cs.toList.take (len * sz) ++ vs ++ (Builtin.zeroCells z.cells (newCap - (len + n))).toList).length)
                    (AW.new ⟨T.set none b A.heap, A.next⟩ (.cells (setRow t (len * sz) news) ((len + n) * sz) e true))
                    (w.drew.alloc (.cells (cs.toList.take (len * sz) ++ vs ++ (Builtin.zeroCells z.cells (newCap - (len + n))).toList).toArray e)) := by
                  have hd := Ext.drawn hfor.rel (w.drawn + 1)
                  have hh := (newRow_ok (X := X) (σ := σ) (A := ⟨T.set none b A.heap, A.next⟩) (w := w.drew) (cs := (cs.toList.take (len * sz) ++ vs ++ (Builtin.zeroCells z.cells (newCap - (len + n))).toList).toArray)
                    (t := setRow t (len * sz) news) (n := (len + n) * sz) hd.rel e (by simp [hlen, Nat.add_mul]; omega) hkeys
                    (by have h5 := ht'.more (Builtin.zeroCells z.cells (newCap - (len + n))); have h6 : (cs.toList.take (len * sz) ++ vs).toArray ++ Builtin.zeroCells z.cells (newCap - (len + n)) = (cs.toList.take (len * sz) ++ vs ++ (Builtin.zeroCells z.cells (newCap - (len + n))).toList).toArray := (by apply Array.ext'; simp); rw [h6] at h5; exact h5)).2
                  exact hd.trans hh
                refine ⟨_, _, _, hrun, hfor.trans hnewx, .slice (Sig.put_same _ _ _ _) q1 (fun e => by omega) (fun _ => ?_) q2⟩
                rw [Sig.put_sz]
                have hlen2 : (cs.toList.take (len * sz)).length = len * sz := by simp; omega
                rw [List.length_append, List.length_append, hlen2, hlen]
                simp [zeroCells_size, hz]
                rw [← Nat.add_mul, ← Nat.add_mul]; congr 1; omega
            · cases h
        · cases h
      · cases h
  · cases h
end Go.Abs
end
section
namespace Go.Abs
variable {X : Ctx} {σ : Sig} {A : AW} {w : World} {α : Type}
def fillL : List AV → List (Nat × Nat × AV) → Option (List AV)
  | l, [] => some l
  | l, (off, sz, v) :: ps => (match Nat.beq (lenN v.cells) sz && Nat.ble (off + sz) (lenN l) with
    | true => listK (l.take off ++ v.cells ++ l.drop (off + sz)) fun l => fillL l ps
    | false => none)
inductive PartsRel (σ : Sig) (place : Nat → Option (Nat × Nat)) : List (Nat × Nat × AV) → List (Nat × Value) → Prop
  | nil : PartsRel σ place [] []
  | cons {off sz i : Nat} {a : AV} {v : Value} {l : List (Nat × Nat × AV)} {vs : List (Nat × Value)} (hp : place i = some (off, sz)) (h : VRel σ a v) (t : PartsRel σ place l vs) :
      PartsRel σ place ((off, sz, a) :: l) ((i, v) :: vs)
theorem foldSet (off : Nat) : ∀ (vs : List Value) (i : Nat) (cs : Array Value), off + i + vs.length ≤ cs.size →
    ((vs.zipIdx i).foldl (fun cs (p : Value × Nat) => cs.setIfInBounds (off + p.2) p.1) cs).toList = cs.toList.take (off + i) ++ vs ++ cs.toList.drop (off + i + vs.length)
  | [], i, cs, _ => by simp
  | v :: rest, i, cs, h => by
    simp only [List.zipIdx_cons, List.foldl_cons]
    rw [foldSet off rest (i + 1) (cs.setIfInBounds (off + i) v) (by simp at h ⊢; omega)]
    have e := list_seg_step cs.toList (off + i) v rest (by simp at h ⊢; omega)
    simpa [Array.toList_setIfInBounds, Nat.add_assoc] using e
theorem fillL_ok {place : Nat → Option (Nat × Nat)} : ∀ {ps : List (Nat × Nat × AV)} {l l' : List AV} {vs : List (Nat × Value)} {cells : Array Value}, fillL l ps = some l' → PartsRel σ place ps vs → VsRel σ l cells.toList →
    ∃ cells', Instr.fill place cells vs = some cells' ∧ VsRel σ l' cells'.toList
  | [], l, l', _, cells, h, .nil, hl => by
    simp only [fillL, Option.some.injEq] at h
    subst h
    exact ⟨cells, rfl, hl⟩
  | (off, sz, a) :: ps, l, l', _, cells, h, .cons (i := i) (v := v) hp hv ht, hl => by
    simp only [fillL, listK_eq] at h
    split at h
    · rename_i hc
      simp only [Bool.and_eq_true] at hc
      have h1 := Nat.eq_of_beq_eq_true hc.1
      have h2 := Nat.le_of_ble_eq_true hc.2
      rw [lenN_eq] at h1 h2
      have hvl := hv.cells.length
      have hll := hl.length
      simp at hvl hll
      have hfit : off + 0 + v.cells.toList.length ≤ cells.size := by simp; omega
      have hf := foldSet off v.cells.toList 0 cells hfit
      have hrel : VsRel σ (l.take off ++ a.cells ++ l.drop (off + sz)) (v.cells.zipIdx.foldl (fun cs (p : Value × Nat) => cs.setIfInBounds (off + p.2) p.1) cells).toList := by
        have e : v.cells.zipIdx.foldl (fun cs (p : Value × Nat) => cs.setIfInBounds (off + p.2) p.1) cells = (v.cells.toList.zipIdx 0).foldl (fun cs (p : Value × Nat) => cs.setIfInBounds (off + p.2) p.1) cells := by
          rw [← Array.foldl_toList]; simp
        rw [e, hf]
        have hd : off + 0 + v.cells.toList.length = off + sz := by simp; omega
        rw [hd]
        exact ((hl.take off).append hv.cells).append (hl.drop (off + sz))
      obtain ⟨cells', q1, q2⟩ := fillL_ok (place := place) h ht hrel
      refine ⟨cells', ?_, q2⟩
      have c1 : (decide (v.cells.size ≠ sz) || decide (off + v.cells.size > cells.size)) = false := by simp; omega
      simp only [Instr.fill, hp]
      rw [if_neg (by rw [c1]; simp)]
      exact q1
    · cases h
def buildK (zs : List AV) (ps : List (Nat × Nat × AV)) (k : AV → Option α) : Option α :=
  match fillL zs ps with
  | some l => k (.agg l)
  | none => none
theorem build_struct {P : Program} {t : TypeId} {fields : Array Field} {i : TypeInfo} {z : Value} (hu : P.underlying t = some (.struct fields)) (hi : P.info? t = some i) (hz : i.zero = some z)
    {szs : List Nat} (hs : fields.toList.map (fun f => (P.info? f.type).map (·.size)) = szs.map some) {vs : List (Nat × Value)} {cells : Array Value}
    (hf : Instr.fill (fun j => (fields.toList.map (·.offset)).zip szs |>.toArray[j]?) z.cells vs = some cells) (w : World) :
    (Instr.build t vs.toArray).run P w = .ok (.agg cells) w := by
  have hm : (fields.mapM fun f => do pure (f.offset, ← sizeOf f.type) : Sem (Array (Nat × Nat))).run P w = .ok ((fields.toList.map (·.offset)).zip szs).toArray w := by
    rw [Array.mapM_eq_mapM_toList]
    have : ∀ (fs : List Field) (ss : List Nat), fs.map (fun f => (P.info? f.type).map (·.size)) = ss.map some →
        (fs.mapM fun f => do pure (f.offset, ← sizeOf f.type) : Sem (List (Nat × Nat))).run P w = .ok ((fs.map (·.offset)).zip ss) w := by
      intro fs
      induction fs with
      | nil => intro ss _; simp
      | cons f fs ih =>
        intro ss h
        cases ss with
        | nil => simp at h
        | cons s ss =>
          simp only [List.map_cons, List.cons.injEq] at h
          obtain ⟨h1, h2⟩ := h
          obtain ⟨j, hj, hjs⟩ := Option.map_eq_some_iff.1 h1
          simp [List.mapM_cons, sizeOf, typeInfo, hj, hjs, ih ss h2]
          have := ih ss h2
          simp [sizeOf, typeInfo] at this
          simp [this]
    have h := this fields.toList szs hs
    simp only [Sem.run_map, h, Result.andThen_ok]
  simp only [Instr.build, Sem.run_bind, zeroValue, typeInfo, run_program, hi, Result.andThen_ok, hz, Sem.run_pure, run_underlying hu, hm]
  rw [hf]
  rfl
theorem build_array {P : Program} {t e : TypeId} {n : Nat} {i j : TypeInfo} {z : Value} (hu : P.underlying t = some (.array n e)) (hi : P.info? t = some i) (hz : i.zero = some z) (hj : P.info? e = some j)
    {vs : List (Nat × Value)} {cells : Array Value} (hf : Instr.fill (fun k => some (k * j.size, j.size)) z.cells vs = some cells) (w : World) :
    (Instr.build t vs.toArray).run P w = .ok (.agg cells) w := by
  simp only [Instr.build, Sem.run_bind, zeroValue, typeInfo, run_program, hi, Result.andThen_ok, hz, Sem.run_pure, run_underlying hu, sizeOf, hj]
  rw [hf]
  rfl
def repL : Nat → List AV → List AV
  | 0, _ => []
  | n + 1, zs => zs ++ repL n zs
theorem VsRel.of_get : ∀ {l : List AV} {vs : List Value}, l.length = vs.length → (∀ (j : Nat) (a : AV), l[j]? = some a → ∃ v, vs[j]? = some v ∧ VRel σ a v) → VsRel σ l vs
  | [], [], _, _ => .nil
  | [], _ :: _, h, _ => by simp at h
  | _ :: _, [], h, _ => by simp at h
  | a :: l, v :: vs, h, hg => by
    obtain ⟨v', h1, h2⟩ := hg 0 a rfl
    simp at h1; subst h1
    exact .cons h2 (VsRel.of_get (by simpa using h) fun j b hb => by simpa using hg (j + 1) b (by simpa using hb))
theorem zeroCells_succ (z : Array Value) (n : Nat) : (Builtin.zeroCells z (n + 1)).toList = z.toList ++ (Builtin.zeroCells z n).toList := by
  apply List.ext_getElem?
  intro j
  simp only [Builtin.zeroCells, Array.toList_map, Array.toList_range, List.getElem?_map]
  rw [List.getElem?_append]
  simp only [Array.length_toList]
  by_cases hz : z.size = 0
  · simp [hz]
  · by_cases hj : j < z.size
    · have h1 : j < (n + 1) * z.size := by rw [Nat.add_mul]; omega
      simp [h1, hj, Nat.mod_eq_of_lt hj]
    · simp only [hj, if_false]
      rw [List.getElem?_map]
      by_cases h2 : j < (n + 1) * z.size
      · have h3 : j - z.size < n * z.size := by rw [Nat.add_mul] at h2; omega
        have h4 : j % z.size = (j - z.size) % z.size := by
          rw [Nat.mod_eq_sub_mod (by omega)]
        simp [h2, h3, h4]
      · have h3 : ¬ j - z.size < n * z.size := by rw [Nat.add_mul] at h2; omega
        simp [h2, h3]
theorem repL_rel {zs : List AV} {z : Array Value} (h : VsRel σ zs z.toList) : ∀ n, VsRel σ (repL n zs) (Builtin.zeroCells z n).toList
  | 0 => by simp [repL, Builtin.zeroCells]; exact .nil
  | n + 1 => by rw [zeroCells_succ]; exact h.append (repL_rel h n)
theorem repL_length (zs : List AV) : ∀ n, (repL n zs).length = n * zs.length
  | 0 => by simp [repL]
  | n + 1 => by simp [repL, repL_length zs n, Nat.add_mul, Nat.add_comm]
def mkSliceK (e : TypeId) (bytes : Nat) (zs : List AV) (len cap : AV) (A : AW) (k : AV → AW → Option α) : Option α :=
  match len, cap with
  | .int _ (.ofNat l), .int _ (.ofNat c) => (match Nat.ble l c && Nat.ble (bytes * c) 281474976710656 && Nat.blt c 9223372036854775808 with
    | true => setRowK .nil 0 (repL c zs) fun t => natK (c * lenN zs) fun m => A.newK (.cells t m e true) fun b A => natK l fun l => natK c fun c => k (.slice b 0 l c 0) A
    | false => none)
  | _, _ => none
theorem mkSliceK_ok {e : TypeId} {bytes : Nat} {zs : List AV} {len cap : AV} {k : AV → AW → Option α} {r : α} (h : mkSliceK e bytes zs len cap A k = some r) :
    ∃ v A', k v A' = some r ∧ ∀ (X : Ctx) σ w vl vc t i z, WRel X σ A w → VRel σ len vl → VRel σ cap vc → X.P.underlying t = some (.slice e) → X.P.info? e = some i → i.zero = some z → i.bytes = bytes →
      i.size = z.cells.size → VsRel σ zs z.cells.toList → Gives X σ A w (Instr.makeSlice t vl vc) v A' := by
  unfold mkSliceK at h
  split at h
  · rename_i _ l _ c
    split at h
    · rename_i hcond
      simp only [Bool.and_eq_true] at hcond
      have c1 := Nat.le_of_ble_eq_true hcond.1.1
      have c2 := Nat.le_of_ble_eq_true hcond.1.2
      have c3 : c < 9223372036854775808 := by have := hcond.2; rw [blt_decide] at this; exact of_decide_eq_true this
      simp only [setRowK_eq, natK_eq, newK_eq] at h
      refine ⟨_, _, h, fun X σ w vl vc t i z hw hl hc hu hi hz hb hs hzs => ?_⟩
      have := hl.int_inv; subst this
      have := hc.int_inv; subst this
      subst hb
      have hrel := repL_rel hzs c
      have hlen := hrel.length
      rw [repL_length] at hlen
      obtain ⟨h1, h2⟩ := newRow_ok (cs := Builtin.zeroCells z.cells c) (t := setRow .nil 0 (repL c zs)) (n := c * lenN zs) hw e (by rw [lenN_eq, hlen]; simp)
        (fun x v hx => by have := ofList_lt hx; rw [repL_length] at this; rw [lenN_eq]; exact this) (by have h5 := TRel.ofList hrel; rwa [Array.toArray_toList] at h5)
      refine ⟨_, _, .slice (some ⟨w.heap.size, 0, none⟩) l c, ?_, h2, .slice (Sig.put_same _ _ _ _) (Nat.le_refl _) (fun _ => rfl) (fun e => absurd rfl e) c3⟩
      have e1 : IntKind.i64.wrap (Int.ofNat l) = Int.ofNat l := IntWalk.i64_in _ (by have h0 : (Int.ofNat l : Int) = (l : Int) := rfl; omega)
      have e2 : IntKind.i64.wrap (Int.ofNat c) = Int.ofNat c := IntWalk.i64_in _ (by have h0 : (Int.ofNat c : Int) = (c : Int) := rfl; omega)
      have e3 : (i.bytes : Int) * (c : Int) ≤ 281474976710656 := by
        have h0 : (i.bytes : Int) * (c : Int) = ((i.bytes * c : Nat) : Int) := (Int.natCast_mul _ _).symm
        rw [h0]; omega
      have e4 : ¬ ((281474976710656 : Int) < (i.bytes : Int) * (c : Int)) := by omega
      have e5 : ¬ ((c : Int) < 0) := by omega
      have e6 : ¬ ((l : Int) < 0) := by omega
      have e7 : ¬ ((c : Int) < (l : Int)) := by omega
      have hrow : (newRow e ((Array.range (c * i.size)).map fun j => z.cells[j % z.cells.size]!)).run X.P w = .ok ⟨w.heap.size, 0, none⟩ (w.alloc (.cells (Builtin.zeroCells z.cells c) e)) := by
        rw [hs]; exact h1
      by_cases hn0 : c * i.size = 0
      · have hz0 : Builtin.zeroCells z.cells c = #[] := by
          apply Array.eq_empty_of_size_eq_zero
          simp [Builtin.zeroCells, ← hs, hn0]
        have hnr : (newRow e ((Array.range 0).map fun _ => (default : Value))).run X.P w = .ok ⟨w.heap.size, 0, none⟩ (w.alloc (.cells (Builtin.zeroCells z.cells c) e)) := by
          have hm0 : ((Array.range 0).map fun _ => (default : Value)) = #[] := by apply Array.eq_empty_of_size_eq_zero; simp
          rw [hz0, hm0]; rfl
        simp only [Instr.makeSlice, Sem.run_bind, run_underlying hu, Result.andThen_ok, asInt, asIntOf, Sem.run_pure, typeInfo, run_program, hi, e1, e2]
        simp [e4, e5, e6, e7, sizeOf, typeInfo, hi, hn0, hnr]
      · simp only [Instr.makeSlice, Sem.run_bind, run_underlying hu, Result.andThen_ok, asInt, asIntOf, Sem.run_pure, typeInfo, run_program, hi, e1, e2]
        simp [e4, e5, e6, e7, sizeOf, typeInfo, zeroValue, hi, hn0, hz, hrow]
    · cases h
  · cases h
end Go.Abs
end
section
namespace Go.Abs
variable {X : Ctx} {σ : Sig} {A : AW} {w : World} {α : Type}
theorem leafEq_self {et : EqT} {a b : AV} {r : Bool} (h : leafEq et a b = some r) : leafEq et a a ≠ none := by
  unfold leafEq at h
  split at h
  · simp [leafEq]
  · simp [leafEq]
  · simp [leafEq]
  · cases h
theorem checkKey_leaf {P : Program} {t : TypeId} {et : EqT} (ht : leafT P t et) {a : AV} {v : Value} (hv : VRel σ a v) (hl : leafEq et a a ≠ none) (e : Bool) (n : Nat) (w : World) :
    (Instr.checkKey e (n + 1) t v).run P w = .ok () w := by
  cases et with
  | int =>
    obtain ⟨k, hk⟩ := ht
    cases a <;> simp [leafEq] at hl
    cases hv
    simp [Instr.checkKey, run_underlying hk]
  | bool =>
    have hk : P.underlying t = some .bool := ht
    cases a <;> simp [leafEq] at hl
    cases hv
    simp [Instr.checkKey, run_underlying hk]
  | str =>
    have hk : P.underlying t = some .string := ht
    cases a <;> simp [leafEq] at hl
    cases hv
    simp [Instr.checkKey, run_underlying hk]
  | _ => exact ht.elim
def keyOK : EqT → AV → Bool
  | .agg [t, t'], .agg [a, b] => (leafEq t a a).isSome && (leafEq t' b b).isSome
  | t, a => (leafEq t a a).isSome
def KeyT (P : Program) (t : TypeId) : EqT → Prop
  | .agg ts => ∃ e i et, P.underlying t = some (.array 2 e) ∧ P.info? e = some i ∧ i.size = 1 ∧ ts = [et, et] ∧ leafT P e et
  | et => leafT P t et
theorem checkKey_ok {P : Program} {t : TypeId} {et : EqT} (ht : KeyT P t et) {a : AV} {v : Value} (hv : VRel σ a v) (hl : keyOK et a = true) (e : Bool) (n : Nat) (w : World) :
    (Instr.checkKey e (n + 2) t v).run P w = .ok () w := by
  cases et with
  | agg ts =>
    obtain ⟨el, i, et, hu, hi, hs, rfl, hle⟩ := ht
    cases a with
    | agg l =>
      match l with
      | [a, b] =>
        simp only [keyOK, Bool.and_eq_true] at hl
        obtain ⟨vs, hvs, rfl⟩ := hv.agg_inv
        obtain ⟨va, h1, ha⟩ := hvs.get 0 (a := a) rfl
        obtain ⟨vb, h2, hb⟩ := hvs.get 1 (a := b) rfl
        have p1 := run_part_leaf hle (vs := vs) (o := 0) (v := va) (by simpa using h1) w
        have p2 := run_part_leaf hle (vs := vs) (o := 1) (v := vb) (by simpa using h2) w
        have c1 := checkKey_leaf hle ha (fun h => by rw [h] at hl; simp at hl) e n w
        have c2 := checkKey_leaf hle hb (fun h => by rw [h] at hl; simp at hl) e n w
        obtain ⟨d', hd'⟩ : ∃ d', d' = n + 1 := ⟨_, rfl⟩
        rw [← hd'] at c1 c2
        rw [show n + 2 = d' + 1 from by omega]
        clear hd'
        simp only [Instr.checkKey, Sem.run_bind, run_underlying hu, Result.andThen_ok, sizeOf, typeInfo, run_program, hi, hs, Sem.run_pure,
          Std.Legacy.Range.forIn_eq_forIn_range', Std.Legacy.Range.size, Nat.sub_zero, Nat.add_sub_cancel, Nat.div_one, List.range'_succ, List.range'_zero, List.forIn_cons, List.forIn_nil,
          Nat.mul_one, Nat.zero_add, p1, p2, c1, c2]
      | [] => simp [keyOK, leafEq] at hl
      | [_] => simp [keyOK, leafEq] at hl
      | _ :: _ :: _ :: _ => simp [keyOK, leafEq] at hl
    | _ => simp [keyOK, leafEq] at hl
  | int =>
    have ht : leafT P t .int := ht
    have hl : (leafEq .int a a).isSome = true := by cases a <;> exact hl
    exact checkKey_leaf ht hv (fun h => by rw [h] at hl; cases hl) e (n + 1) w
  | bool =>
    have ht : leafT P t .bool := ht
    have hl : (leafEq .bool a a).isSome = true := by cases a <;> exact hl
    exact checkKey_leaf ht hv (fun h => by rw [h] at hl; cases hl) e (n + 1) w
  | str =>
    have ht : leafT P t .str := ht
    have hl : (leafEq .str a a).isSome = true := by cases a <;> exact hl
    exact checkKey_leaf ht hv (fun h => by rw [h] at hl; cases hl) e (n + 1) w
  | _ => exact ht.elim
def FoundRel (σ : Sig) : Option (Nat × AV) → Option (Nat × Value) → Prop
  | none, r' => r' = none
  | some (j, v), r' => ∃ v', r' = some (j, v') ∧ VRel σ v v'
def findK (et : EqT) (k : AV) : List (AV × AV × Nat) → Nat → Option (Option (Nat × AV))
  | [], _ => some none
  | (key, v, _) :: es, i => (match leafEq et k key with
    | some true => some (some (i, v))
    | some false => findK et k es (Nat.succ i)
    | none => none)
theorem sameNow_leaf {P : Program} {t : TypeId} {et : EqT} (ht : leafT P t et) {d : TypeDesc} (hd : P.underlying t = some d) {a b : AV} {r : Bool} (h : leafEq et a b = some r) {va vb : Value} (ha : VRel σ a va) (hb : VRel σ b vb) :
    Instr.sameNow d va vb = some r := by
  unfold leafEq at h
  split at h
  · split at h
    · rename_i hk; subst hk
      obtain ⟨k', hk'⟩ := ht
      rw [hd] at hk'; cases hk'
      have := ha.int_inv; subst this
      have := hb.int_inv; subst this
      simp only [Option.some.injEq] at h; subst h
      simp [Instr.sameNow, ieq_eq, Int.beq_eq_decide]
    · cases h
  · have ht : P.underlying t = some .bool := ht
    have : d = .bool := by rw [hd] at ht; exact Option.some.inj ht
    subst this
    have := ha.bool_inv; subst this
    have := hb.bool_inv; subst this
    simp only [Option.some.injEq] at h; subst h
    rfl
  · have ht : P.underlying t = some .string := ht
    have : d = .string := by rw [hd] at ht; exact Option.some.inj ht
    subst this
    obtain ⟨s, hs, _, rfl⟩ := ha.str_inv
    obtain ⟨s', hs', _, rfl⟩ := hb.str_inv
    simp only [Option.some.injEq] at h; subst h
    show some (s == s') = some _
    rw [beq_toListBytes, strEq, hs, hs']
  · cases h
theorem findK_ok {P : Program} {t : TypeId} {et : EqT} (ht : leafT P t et) {d : TypeDesc} (hd : P.underlying t = some d) {k : AV} {vk : Value} (hk : VRel σ k vk) :
    ∀ {l : List (AV × AV × Nat)} {es : List MapEntry} {i : Nat} {r : Option (Nat × AV)}, findK et k l i = some r → EsRel σ l es →
      ∃ r', Instr.findNow d vk es i = some r' ∧ FoundRel σ r r'
  | [], _, i, r, h, .nil => by
    simp only [findK, Option.some.injEq] at h
    subst h
    exact ⟨none, rfl, rfl⟩
  | (key, v, b) :: l, e :: es, i, r, h, .cons hkey hval hb t => by
    simp only [findK] at h
    split at h
    · rename_i heq
      simp only [Option.some.injEq] at h
      subst h
      have := sameNow_leaf ht hd heq hk hkey
      exact ⟨some (i, e.val), by simp [Instr.findNow, this], e.val, rfl, hval⟩
    · rename_i heq
      have := sameNow_leaf ht hd heq hk hkey
      obtain ⟨r', h1, h2⟩ := findK_ok ht hd hk h t
      exact ⟨r', by simp [Instr.findNow, this, h1], h2⟩
    · cases h
theorem findKey_now {P : Program} {w : World} {kt : TypeId} {d : TypeDesc} {k : Value} {l : List MapEntry} {a : Option (Nat × Value)} (hd : P.underlying kt = some d) (h : Instr.findNow d k l 0 = some a) :
    (Instr.findKey kt k l).run P w = .ok a w := by
  simp [Instr.findKey, run_underlying hd, h]
def findAny (et : EqT) (k : AV) (l : List (AV × AV × Nat)) : Option (Option (Nat × AV)) :=
  match l with
  | [] => some none
  | l => findK et k l 0
theorem findAny_ok {P : Program} {t : TypeId} {et : EqT} (ht : KeyT P t et) {k : AV} {vk : Value} (hk : VRel σ k vk) {l : List (AV × AV × Nat)} {es : List MapEntry} {r : Option (Nat × AV)}
    (h : findAny et k l = some r) (hes : EsRel σ l es) (w : World) :
    ∃ r', (Instr.findKey t vk es).run P w = .ok r' w ∧ FoundRel σ r r' := by
  have hd : ∃ d, P.underlying t = some d := by
    cases et with
    | agg ts => obtain ⟨e, i, et, hu, _⟩ := ht; exact ⟨_, hu⟩
    | int => obtain ⟨k, hk⟩ := ht; exact ⟨_, hk⟩
    | bool => exact ⟨_, ht⟩
    | str => exact ⟨_, ht⟩
    | _ => exact ht.elim
  obtain ⟨d, hd⟩ := hd
  unfold findAny at h
  split at h
  · simp only [Option.some.injEq] at h
    subst h
    cases hes
    exact ⟨none, by simp [Instr.findKey, run_underlying hd, Instr.findNow], rfl⟩
  · have hleaf : leafT P t et := by
      cases et with
      | agg ts =>
        cases hes with
        | nil => rename_i hne; exact absurd rfl (hne)
        | cons => simp [findK, leafEq] at h
      | int => exact ht
      | bool => exact ht
      | str => exact ht
      | _ => exact ht.elim
    obtain ⟨r', h1, h2⟩ := findK_ok hleaf hd hk h hes
    exact ⟨r', findKey_now hd h1, h2⟩
theorem run_getMap {P : Program} {w : World} {c : Nat} {E : Array MapEntry} {clock : Nat} (h : w.heap[c]? = some (.map E clock)) : (getObj c).run P w = .ok (.map E clock) w := by
  simp [getObj, Sem.run, h]
theorem run_setMap {P : Program} {w : World} {c : Nat} {E : Array MapEntry} {clock : Nat} (h : w.heap[c]? = some (.map E clock)) (O : Obj) :
    (setObj c O).run P w = .ok () { w with heap := w.heap.setIfInBounds c O } := by
  simp [setObj, Sem.run, h]
def entriesOf (x : AV) (A : AW) : Option (List (AV × AV × Nat)) :=
  match x with
  | .nmap => some []
  | .map b => (match A.heap.get b with
    | some (.map es _) => some es
    | _ => none)
  | _ => none
def lookupK (et : EqT) (zero : AV) (ok : Bool) (x k : AV) (A : AW) (κ : AV → Option α) : Option α :=
  match entriesOf x A with
  | some es => (match keyOK et k with
    | true => (match findAny et k es with
      | some (some (_, v)) => (match ok with
        | true => κ (.tuple [v, .bool true])
        | false => κ v)
      | some none => (match ok with
        | true => κ (.tuple [zero, .bool false])
        | false => κ zero)
      | none => none)
    | false => none)
  | none => none
theorem WRel.map_at (h : WRel X σ A w) {b : Ix} {es : List (AV × AV × Nat)} {clock : Nat} (hb : A.heap.get b = some (.map es clock)) :
    ∃ c entries, σ b = some c ∧ w.heap[c]? = some (.map entries clock) ∧ EsRel σ es entries.toList := by
  obtain ⟨c, O, hc, hO, hr⟩ := h.live b _ hb
  cases hr with
  | map h => exact ⟨c, _, hc, hO, h⟩
theorem lookupK_ok {et : EqT} {zero : AV} {ok : Bool} {x k : AV} {κ : AV → Option α} {r : α} (h : lookupK et zero ok x k A κ = some r) :
    ∃ v, κ v = some r ∧ ∀ (X : Ctx) σ w vx vk t key elem i z, WRel X σ A w → VRel σ x vx → VRel σ k vk → X.P.underlying t = some (.map key elem) → KeyT X.P key et →
      X.P.info? elem = some i → i.zero = some z → VRel σ zero z → Rd X σ w (Instr.lookup t vx vk ok) v := by
  unfold lookupK at h
  split at h
  · rename_i es hes
    split at h
    · rename_i hko
      have entries : ∀ (X : Ctx) σ w vx, WRel X σ A w → VRel σ x vx → ∃ E : Array MapEntry, EsRel σ es E.toList ∧
          ((vx = .map none ∧ E = #[]) ∨ ∃ c clock, vx = .map (some c) ∧ w.heap[c]? = some (.map E clock)) := by
        intro X σ w vx hw hx
        unfold entriesOf at hes
        split at hes
        · simp only [Option.some.injEq] at hes; subst hes
          cases hx
          exact ⟨#[], .nil, .inl ⟨rfl, rfl⟩⟩
        · rename_i b
          split at hes
          · rename_i es' clock hb
            simp only [Option.some.injEq] at hes; subst hes
            obtain ⟨c, entries, hc, hO, he⟩ := hw.map_at hb
            cases hx with
            | map hc2 =>
              have := hc2.symm.trans hc
              have := Option.some.inj this; subst this
              exact ⟨entries, he, .inr ⟨_, clock, rfl, hO⟩⟩
          · cases hes
        · cases hes
      split at h
      · rename_i j v hf
        have main : ∀ (X : Ctx) σ w vx vk t key elem i z, WRel X σ A w → VRel σ x vx → VRel σ k vk → X.P.underlying t = some (.map key elem) → KeyT X.P key et →
            X.P.info? elem = some i → i.zero = some z → VRel σ zero z → ∃ v', VRel σ v v' ∧ (Instr.lookup t vx vk ok).run X.P w = .ok (if ok then .tuple #[v', .bool true] else v') w := by
          intro X σ w vx vk t key elem i z hw hx hk hu hkt hi hz hzr
          obtain ⟨E, hE, hrun⟩ := entries X σ w vx hw hx
          obtain ⟨r', h1, v', rfl, hv⟩ := findAny_ok hkt hk hf hE w
          refine ⟨v', hv, ?_⟩
          have hck := checkKey_ok hkt hk hko E.isEmpty 9998 w
          rcases hrun with ⟨rfl, rfl⟩ | ⟨c, clock, rfl, hO⟩
          · simp only [Instr.lookup, Sem.run_bind, run_underlying hu, Result.andThen_ok, Sem.run_pure, hck, h1]
          · simp only [Instr.lookup, Sem.run_bind, run_underlying hu, Result.andThen_ok, Sem.run_pure, run_getMap hO, hck, h1]
        split at h
        · refine ⟨_, h, fun X σ w vx vk t key elem i z hw hx hk hu hkt hi hz hzr => ?_⟩
          obtain ⟨v', hv, hrun⟩ := main X σ w vx vk t key elem i z hw hx hk hu hkt hi hz hzr
          exact ⟨_, .tuple (.cons hv (.cons (.bool true) .nil)), by simpa using hrun⟩
        · refine ⟨_, h, fun X σ w vx vk t key elem i z hw hx hk hu hkt hi hz hzr => ?_⟩
          obtain ⟨v', hv, hrun⟩ := main X σ w vx vk t key elem i z hw hx hk hu hkt hi hz hzr
          exact ⟨_, hv, by simpa using hrun⟩
      · rename_i hf
        have main : ∀ (X : Ctx) σ w vx vk t key elem i z, WRel X σ A w → VRel σ x vx → VRel σ k vk → X.P.underlying t = some (.map key elem) → KeyT X.P key et →
            X.P.info? elem = some i → i.zero = some z → VRel σ zero z → (Instr.lookup t vx vk ok).run X.P w = .ok (if ok then .tuple #[z, .bool false] else z) w := by
          intro X σ w vx vk t key elem i z hw hx hk hu hkt hi hz hzr
          obtain ⟨E, hE, hrun⟩ := entries X σ w vx hw hx
          obtain ⟨r', h1, rfl⟩ := findAny_ok hkt hk hf hE w
          have hck := checkKey_ok hkt hk hko E.isEmpty 9998 w
          rcases hrun with ⟨rfl, rfl⟩ | ⟨c, clock, rfl, hO⟩
          · simp only [Instr.lookup, Sem.run_bind, run_underlying hu, Result.andThen_ok, Sem.run_pure, hck, h1, zeroValue, typeInfo, run_program, hi, hz]
          · simp only [Instr.lookup, Sem.run_bind, run_underlying hu, Result.andThen_ok, Sem.run_pure, run_getMap hO, hck, h1, zeroValue, typeInfo, run_program, hi, hz]
        split at h
        · refine ⟨_, h, fun X σ w vx vk t key elem i z hw hx hk hu hkt hi hz hzr => ?_⟩
          have hrun := main X σ w vx vk t key elem i z hw hx hk hu hkt hi hz hzr
          exact ⟨_, .tuple (.cons hzr (.cons (.bool false) .nil)), by simpa using hrun⟩
        · refine ⟨_, h, fun X σ w vx vk t key elem i z hw hx hk hu hkt hi hz hzr => ?_⟩
          have hrun := main X σ w vx vk t key elem i z hw hx hk hu hkt hi hz hzr
          exact ⟨_, hzr, by simpa using hrun⟩
      · cases h
    · cases h
  · cases h
def setNth (k v : AV) : Nat → List (AV × AV × Nat) → List (AV × AV × Nat)
  | _, [] => []
  | 0, (_, _, b) :: l => (k, v, b) :: l
  | n + 1, e :: l => e :: setNth k v n l
theorem setNth_rel {k v : AV} {vk vv : Value} (hk : VRel σ k vk) (hv : VRel σ v vv) : ∀ {n : Nat} {l : List (AV × AV × Nat)} {es : List MapEntry}, EsRel σ l es →
    EsRel σ (setNth k v n l) (es.modify n fun e => { e with key := vk, val := vv })
  | 0, _, _, .nil => .nil
  | _ + 1, _, _, .nil => .nil
  | 0, _, _, .cons (e := e) _ _ hb t => by
    have := EsRel.cons (e := { e with key := vk, val := vv }) hk hv hb t
    simpa [setNth, List.modify] using this
  | n + 1, _, _, .cons h1 h2 hb t => by simpa [setNth] using EsRel.cons h1 h2 hb (setNth_rel hk hv (n := n) t)
theorem EsRel.snoc {k v : AV} {b : Nat} {e : MapEntry} (hk : VRel σ k e.key) (hv : VRel σ v e.val) (hb : e.born = b) : ∀ {l : List (AV × AV × Nat)} {es : List MapEntry}, EsRel σ l es → EsRel σ (l ++ [(k, v, b)]) (es ++ [e])
  | _, _, .nil => .cons hk hv hb .nil
  | _, _, .cons h1 h2 h3 t => .cons h1 h2 h3 (t.snoc hk hv hb)
def mapSetK (et : EqT) (m k x : AV) (A : AW) (κ : AW → Option α) : Option α :=
  match m with
  | .map b => (match A.heap.get b with
    | some (.map es clock) => (match findK et k es 0 with
      | some (some (j, _)) => listK (setNth k x j es) fun es => T.setK (some (.map es clock)) b A.heap fun h => κ ⟨h, A.next⟩
      | some none => (match leafEq et k k with
        | some _ => listK (es ++ [(k, x, clock)]) fun es => natK (clock + 1) fun c => T.setK (some (.map es c)) b A.heap fun h => κ ⟨h, A.next⟩
        | none => none)
      | none => none)
    | _ => none)
  | _ => none
theorem sameBits_leaf {P : Program} {t : TypeId} {et : EqT} (ht : leafT P t et) {a b : AV} (h : leafEq et a b = some true) {va vb : Value} (ha : VRel σ a va) (hb : VRel σ b vb) (n : Nat) : Instr.sameBits n vb va = true := by
  unfold leafEq at h
  split at h
  · split at h
    · rename_i hk; subst hk
      have := ha.int_inv; subst this
      have := hb.int_inv; subst this
      simp only [Option.some.injEq, ieq_eq, decide_eq_true_eq] at h; subst h
      cases n <;> simp [Instr.sameBits]
    · cases h
  · have := ha.bool_inv; subst this
    have := hb.bool_inv; subst this
    simp only [Option.some.injEq, beq_iff_eq] at h; subst h
    cases n <;> simp [Instr.sameBits]
  · obtain ⟨s, hs, _, rfl⟩ := ha.str_inv
    obtain ⟨s', hs', _, rfl⟩ := hb.str_inv
    simp only [Option.some.injEq, leq_eq, decide_eq_true_eq] at h
    have : s = s' := strBytes_inj (by rw [hs, hs', h])
    subst this
    cases n <;> simp [Instr.sameBits, beq_toListBytes]
  · cases h
theorem findK_found {et : EqT} {k : AV} : ∀ {l : List (AV × AV × Nat)} {i j : Nat} {v : AV}, findK et k l i = some (some (j, v)) → ∃ d key b, j = i + d ∧ l[d]? = some (key, v, b) ∧ leafEq et k key = some true
  | [], i, j, v, h => by simp [findK] at h
  | (key, u, b) :: l, i, j, v, h => by
    simp only [findK] at h
    split at h
    · rename_i heq
      simp only [Option.some.injEq, Prod.mk.injEq] at h
      obtain ⟨rfl, rfl⟩ := h
      exact ⟨0, key, b, rfl, rfl, heq⟩
    · obtain ⟨d, key', b', h1, h2, h3⟩ := findK_found h
      exact ⟨d + 1, key', b', by rw [h1, Nat.succ_eq_add_one]; omega, by simpa using h2, h3⟩
    · cases h
theorem EsRel.get : ∀ {l : List (AV × AV × Nat)} {es : List MapEntry} (n : Nat) {k v : AV} {b : Nat}, EsRel σ l es → l[n]? = some (k, v, b) → ∃ e, es[n]? = some e ∧ VRel σ k e.key ∧ VRel σ v e.val ∧ e.born = b
  | _, _, _, _, _, _, .nil, h => by simp at h
  | _, _, 0, _, _, _, .cons hk hv hb t, h => by simp at h; obtain ⟨rfl, rfl, rfl⟩ := h; exact ⟨_, rfl, hk, hv, hb⟩
  | _, _, n + 1, _, _, _, .cons hk hv hb t, h => by simpa using t.get n (by simpa using h)
theorem mapSetK_ok {et : EqT} {m k x : AV} {κ : AW → Option α} {r : α} (h : mapSetK et m k x A κ = some r) :
    ∃ A', κ A' = some r ∧ A'.next = A.next ∧ ∀ (X : Ctx) σ w vm vk vx t key elem, WRel X σ A w → VRel σ m vm → VRel σ k vk → VRel σ x vx → X.P.underlying t = some (.map key elem) → leafT X.P key et →
      ∃ w', (Instr.mapUpdate t vm vk vx).run X.P w = .ok () w' ∧ Go.Abs.Ext X σ A w σ A' w' := by
  unfold mapSetK at h
  split at h
  · rename_i b
    split at h
    · rename_i es clock hb
      have keyOf : ∀ {P : Program} {key : TypeId}, leafT P key et → ∃ d, P.underlying key = some d := fun ht => (leafT_agg ht).imp fun _ h => h.1
      split at h
      · rename_i j old hf
        simp only [listK_eq, T.setK_eq] at h
        refine ⟨_, h, rfl, fun X σ w vm vk vx t key elem hw hm hk hx hu ht => ?_⟩
        obtain ⟨c, E, hc, hO, hE⟩ := hw.map_at hb
        cases hm with
        | map hc2 =>
          have := Option.some.inj (hc.symm.trans hc2); subst this
          obtain ⟨d, hd⟩ := keyOf ht
          obtain ⟨r', h1, v', rfl, hv'⟩ := findK_ok ht hd hk hf hE
          obtain ⟨dd, key', b', e1, e2, e3⟩ := findK_found hf
          simp only [Nat.zero_add] at e1; subst e1
          obtain ⟨e, q1, q2, q3, q4⟩ := hE.get _ e2
          have hq1 : E[j]? = some e := by simpa using q1
          have hsb := sameBits_leaf ht e3 hk q2 10000
          have hck := checkKey_leaf ht hk (leafEq_self e3) false 9999 w
          refine ⟨_, ?_, Ext.change hw hb hc (O' := .map (E.modify j fun e => { e with key := vk, val := vx }) clock) (w' := { w with heap := w.heap.setIfInBounds c (.map (E.modify j fun e => { e with key := vk, val := vx }) clock) }) (.map ?_) (fun q => ?_) (fun _ _ _ h => by cases h) (by simp) rfl rfl rfl⟩
          · simp only [Instr.mapUpdate, Sem.run_bind, run_underlying hu, Result.andThen_ok, run_getMap hO, hck, findKey_now hd h1]
            simp only [hq1, Option.map_some, Option.getD_some, Instr.keyThatStays, hsb, if_true, Sem.run_bind, Sem.run_pure, Result.andThen_ok]
            rw [run_setMap hO]
          · have := setNth_rel hk hx (n := j) hE
            simpa [Array.toList_modify] using this
          · have hlt : c < w.heap.size := (Array.getElem?_eq_some_iff.1 hO).1
            by_cases hq : q = c
            · subst hq; simp [hlt]
            · rw [if_neg hq]; simp [Array.getElem?_setIfInBounds_ne (fun e => hq e.symm)]
      · rename_i hf
        split at h
        · rename_i rr hself
          simp only [listK_eq, T.setK_eq, natK_eq] at h
          refine ⟨_, h, rfl, fun X σ w vm vk vx t key elem hw hm hk hx hu ht => ?_⟩
          obtain ⟨c, E, hc, hO, hE⟩ := hw.map_at hb
          cases hm with
          | map hc2 =>
            have := Option.some.inj (hc.symm.trans hc2); subst this
            obtain ⟨d, hd⟩ := keyOf ht
            obtain ⟨r', h1, rfl⟩ := findK_ok ht hd hk hf hE
            have hck := checkKey_leaf ht hk (by rw [hself]; simp) false 9999 w
            refine ⟨_, ?_, Ext.change hw hb hc (O' := .map (E.push { key := vk, val := vx, born := clock }) (clock + 1)) (w' := { w with heap := w.heap.setIfInBounds c (.map (E.push { key := vk, val := vx, born := clock }) (clock + 1)) }) (.map ?_) (fun q => ?_) (fun _ _ _ h => by cases h) (by simp) rfl rfl rfl⟩
            · simp only [Instr.mapUpdate, Sem.run_bind, run_underlying hu, Result.andThen_ok, run_getMap hO, hck, findKey_now hd h1]
              rw [run_setMap hO]
            · have := EsRel.snoc (e := { key := vk, val := vx, born := clock }) (b := clock) hk hx rfl hE
              simpa using this
            · have hlt : c < w.heap.size := (Array.getElem?_eq_some_iff.1 hO).1
              by_cases hq : q = c
              · subst hq; simp [hlt]
              · rw [if_neg hq]; simp [Array.getElem?_setIfInBounds_ne (fun e => hq e.symm)]
        · cases h
      · cases h
    · cases h
  · cases h
def mkMapK (A : AW) (k : AV → AW → Option α) : Option α := A.newK (.map [] 0) fun b A => k (.map b) A
theorem mkMapK_ok {k : AV → AW → Option α} {r : α} (h : mkMapK A k = some r) :
    ∃ v A', k v A' = some r ∧ ∀ (X : Ctx) σ w t, WRel X σ A w → Gives X σ A w (Instr.makeMap t none) v A' := by
  simp only [mkMapK, newK_eq] at h
  refine ⟨_, _, h, fun X σ w t hw => ⟨_, _, .map (some w.heap.size), ?_, Ext.new (O := .map #[] 0) hw (.map .nil), .map (Sig.put_same _ _ _ _)⟩⟩
  simp [Instr.makeMap, newObj, Sem.run]
end Go.Abs
end
section
namespace Go.Abs
variable {X : Ctx} {σ : Sig} {A : AW} {w : World} {α : Type}
def bytesOf : List AV → Option (List Nat)
  | [] => some []
  | .int .u8 (.ofNat b) :: l => (match Nat.blt b 256 with
    | true => (match bytesOf l with
      | some bs => some (b :: bs)
      | none => none)
    | false => none)
  | _ => none
theorem bytesOf_ok : ∀ {l : List AV} {bs : List Nat} {vs : List Value}, bytesOf l = some bs → VsRel σ l vs →
    vs = (bs.map UInt8.ofNat).map (fun u => Value.int .u8 u.toNat) ∧ (bs.map UInt8.ofNat).map UInt8.toNat = bs
  | [], bs, _, h, .nil => by simp [bytesOf] at h; subst h; exact ⟨rfl, rfl⟩
  | a :: l, bs, _, h, .cons hv ht => by
    unfold bytesOf at h
    split at h
    · rename_i heq; cases heq
    · rename_i b l' heq
      simp only [List.cons.injEq] at heq
      obtain ⟨rfl, rfl⟩ := heq
      split at h
      · rename_i hb
        rw [blt_decide] at hb
        have hb := of_decide_eq_true hb
        split at h
        · rename_i bs' hbs
          simp only [Option.some.injEq] at h
          subst h
          obtain ⟨h1, h2⟩ := bytesOf_ok hbs ht
          have := hv.int_inv; subst this
          have hm : (UInt8.ofNat b).toNat = b := by simp [UInt8.toNat_ofNat']; omega
          exact ⟨by simp [h1, hm], by simp [h2, hm]⟩
        · cases h
      · cases h
    · cases h
def b2sK (x : AV) (A : AW) (k : AV → Option α) : Option α :=
  match x with
  | .nslice => k (.str 0 [])
  | .slice b o len _ _ => (match A.heap.get b with
    | some (.cells t _ _ _) => gatherK t o len fun l => (match bytesOf l with
      | some bs => listK bs fun bs => natK len fun n => k (.str n bs)
      | none => none)
    | _ => none)
  | _ => none
theorem foldl_push (ns : List Int) (s : ByteArray) : strBytes (ns.foldl (fun r n => r.push (UInt8.ofNat n.toNat)) s) = strBytes s ++ ns.map fun n => (UInt8.ofNat n.toNat).toNat := by
  induction ns generalizing s with
  | nil => simp
  | cons n ns ih => rw [List.foldl_cons, ih]; simp [strBytes, ByteArray.push]
theorem b2sK_ok {x : AV} {k : AV → Option α} {r : α} (h : b2sK x A k = some r) :
    ∃ v, k v = some r ∧ ∀ (X : Ctx) σ w vx src dst e, WRel X σ A w → VRel σ x vx → X.P.underlying src = some (.slice e) → X.P.underlying e = some (.int .u8) → X.P.underlying dst = some .string →
      Rd X σ w (convert src dst vx) v := by
  unfold b2sK at h
  split at h
  · refine ⟨_, h, fun X σ w vx src dst e hw hx hs he hd => ?_⟩
    cases hx
    exact ⟨.string .empty, .str rfl rfl, by rw [run_convert_bytes_string w src dst e none 0 0 hs he hd]; rfl⟩
  · rename_i b o len cap ex
    split at h
    · rename_i t m e' cl hb
      obtain ⟨l, hk, hl, hg⟩ := gatherK_ok h
      split at hk
      · rename_i bs hbs
        simp only [listK_eq, natK_eq] at hk
        refine ⟨_, hk, fun X σ w vx src dst e hw hx hs he hd => ?_⟩
        obtain ⟨c, cap', hc, _, _, _, _, rfl⟩ := hx.slice_inv
        obtain ⟨c', cs, fr, hc', hO, _, _, ht, _⟩ := hw.cells hb
        have := Option.some.inj (hc.symm.trans hc'); subst this
        obtain ⟨vs, h1, h2, h3⟩ := ht.row hl hg
        obtain ⟨e1, e2⟩ := bytesOf_ok hbs h1
        have hload := run_loadCells_list (P := X.P) w ⟨c, o, none⟩ vs (fun j v hv => by rw [addr_add, cell_of hO]; exact h3 j v hv)
        have hvs : vs = ((bs.map fun b => ((UInt8.ofNat b).toNat : Int))).map (Value.int .u8) := by rw [e1]; simp [Function.comp_def]
        rw [h2, hvs] at hload
        have hrun := run_bytesToString (P := X.P) w ⟨c, o, none⟩ len cap' _ hload
        refine ⟨_, .str (s := (bs.map fun b => ((UInt8.ofNat b).toNat : Int)).foldl (fun r n => r.push (UInt8.ofNat n.toNat)) ByteArray.empty) ?_ ?_, by rw [run_convert_bytes_string w src dst e _ _ _ hs he hd]; exact hrun⟩
        · rw [foldl_push]
          have : strBytes ByteArray.empty = [] := rfl
          rw [this, List.nil_append, ← e2]
          simp [Function.comp_def]
          intro a _; omega
        · have hh := congrArg List.length (foldl_push (bs.map fun b => ((UInt8.ofNat b).toNat : Int)) ByteArray.empty)
          rw [strBytes_length] at hh
          rw [hh]
          have : bs.length = len := by
            have := congrArg List.length e1
            simp at this; omega
          simp [strBytes, this]
      · cases hk
    · cases h
  · cases h
def s2bK (e : TypeId) (x : AV) (A : AW) (k : AV → AW → Option α) : Option α :=
  match x with
  | .str n l => setRowK .nil 0 (u8s l) fun t => A.newK (.cells t n e false) fun b A => (match Nat.blt n 9223372036854775808 with
    | true => k (.slice b 0 n n 1) A
    | false => none)
  | _ => none
theorem s2bK_ok {e : TypeId} {x : AV} {k : AV → AW → Option α} {r : α} (h : s2bK e x A k = some r) :
    ∃ v A', k v A' = some r ∧ ∀ (X : Ctx) σ w vx src dst u, WRel X σ A w → VRel σ x vx → X.P.underlying src = some u → X.P.underlying dst = some (.slice e) → X.P.underlying e = some (.int .u8) →
      Gives X σ A w (convert src dst vx) v A' := by
  unfold s2bK at h
  split at h
  · rename_i n l
    simp only [setRowK_eq, newK_eq] at h
    split at h
    · rename_i hn
      rw [blt_decide] at hn
      have hn := of_decide_eq_true hn
      refine ⟨_, _, h, fun X σ w vx src dst u hw hx hs hd he => ?_⟩
      obtain ⟨s, hsb, hsz, rfl⟩ := hx.str_inv
      subst hsz
      have hrun := Lib.run_convert_string_bytes (P := X.P) w src dst e s hs hd he
      have hcap : s.size ≤ grownCap w s.size 0 e ∧ grownCap w s.size 0 e < 9223372036854775808 := by
        unfold grownCap Question.cut; simp only []
        have := Nat.mod_lt (w.tape w.drawn (.appendCap s.size 0 e)) (show 0 < 2 ^ 63 - s.size by omega)
        constructor <;> omega
      have hsize : (Lib.bytesCells w e s).size = grownCap w s.size 0 e := by simp [Lib.bytesCells]; omega
      have hrel : TRel σ (setRow .nil 0 (u8s l)) (Lib.bytesCells w e s) := by
        have h1 := TRel.ofList (u8s_rel (σ := σ) s)
        rw [hsb] at h1
        have h2 := h1.more (Array.replicate (grownCap w s.size 0 e - s.size) (.int .u8 0))
        have h3 : (s.data.toList.map fun b => Value.int .u8 b.toNat).toArray ++ Array.replicate (grownCap w s.size 0 e - s.size) (.int .u8 0) = Lib.bytesCells w e s := by
          apply Array.ext'; simp [Lib.bytesCells]
        rw [h3] at h2; exact h2
      have hd1 := Ext.drawn hw (w.drawn + 1)
      have hlen : (u8s l).length = s.size := by
        have := (u8s_rel (σ := σ) s).length
        rw [hsb] at this; rw [this]; simp
      have hnew := Ext.new (O := .cells (Lib.bytesCells w e s) e ((Lib.bytesCells w e s).size, (Lib.bytesCells w e s).size + 1)) (o := .cells (setRow .nil 0 (u8s l)) s.size e false) hd1.rel
        (.cells (by rw [hsize]; omega) (fun x v hx => by have := ofList_lt hx; omega) (hrel.mono (hd1.rel.le_put _)) (fun h => by cases h))
      have hall := hd1.trans hnew
      have hw' : Lib.bytesWorld w e s = { w with drawn := w.drawn + 1, heap := w.heap.push (.cells (Lib.bytesCells w e s) e ((Lib.bytesCells w e s).size, (Lib.bytesCells w e s).size + 1)) } := by
        have hh : (Lib.bytesWorld w e s).heap = w.heap.push (.cells (Lib.bytesCells w e s) e ((Lib.bytesCells w e s).size, (Lib.bytesCells w e s).size + 1)) := by
          apply Array.ext
          · rw [Lib.bytesWorld_size]; simp
          · intro j h1 h2
            have hj : j < w.heap.size + 1 := by rw [← Lib.bytesWorld_size w e s]; exact h1
            apply Option.some.inj
            rw [← Array.getElem?_eq_getElem h1, ← Array.getElem?_eq_getElem h2]
            by_cases hjj : j < w.heap.size
            · rw [Lib.bytesWorld_at_old w e s j hjj]; simp [Array.getElem?_push, Nat.ne_of_lt hjj]
            · have : j = w.heap.size := by omega
              subst this
              rw [Lib.bytesWorld_at_new]; simp
        have h2 : Lib.bytesWorld w e s = { w with drawn := w.drawn + 1, heap := (Lib.bytesWorld w e s).heap } := by
          simp [Lib.bytesWorld, World.freeze, World.alloc, World.drew, -World.alloc_eq, -World.drew_eq]
        rw [h2, hh]
      refine ⟨_, _, _, hrun, by rw [hw']; exact hall, ?_⟩
      refine .slice (Sig.put_same _ _ _ _) (by omega) (fun e => by cases e) (fun _ => ?_) hcap.2
      rw [Sig.put_sz]
      show 0 + grownCap w s.size 0 e * 1 = (Lib.bytesCells w e s).size
      rw [hsize]; omega
    · cases h
  · cases h
def uptK (x : AV) (A : AW) (k : AV → Option α) : Option α :=
  match x with
  | .ptr b o => (match A.heap.get b with
    | some (.cells _ n _ _) => (match Nat.blt o n with
      | true => k (.ptr b o)
      | false => none)
    | _ => none)
  | _ => none
theorem uptK_ok {x : AV} {k : AV → Option α} {r : α} (h : uptK x A k = some r) :
    ∃ v, k v = some r ∧ ∀ (X : Ctx) σ w vx src dst t j, WRel X σ A w → VRel σ x vx → X.P.underlying src = some (.pointer t) → X.P.underlying dst = some .unsafePointer → X.P.info? t = some j → j.size ≠ 0 →
      Rd X σ w (convert src dst vx) v := by
  unfold uptK at h
  split at h
  · split at h
    · rename_i t n e cl hb
      split at h
      · rename_i hn
        rw [blt_decide] at hn
        have hn := of_decide_eq_true hn
        refine ⟨_, h, fun X σ w vx src dst t j hw hx hs hd hj hj0 => ?_⟩
        obtain ⟨c, hc, rfl⟩ := hx.ptr_inv
        obtain ⟨c', cs, fr, hc', hO, hsz, _, ht, _⟩ := hw.cells hb
        have := Option.some.inj (hc.symm.trans hc'); subst this
        exact ⟨_, .ptr hc, Lib.run_to_unsafe (P := X.P) (w := w) ⟨c, _, none⟩ hs hd hj hj0 (e := e) (cells := cs.size) (by simp [World.shape?, hO]) (by simp only []; omega)⟩
      · cases h
    · cases h
  · cases h
def tptK (u : TypeId) (sz : Nat) (x : AV) (A : AW) (k : AV → Option α) : Option α :=
  match x with
  | .nptr => k .nptr
  | .ptr b 0 => (match A.heap.get b with
    | some (.cells _ n e _) => (match Nat.beq e u && Nat.ble sz n && Nat.blt 0 sz with
      | true => k (.ptr b 0)
      | false => none)
    | _ => none)
  | _ => none
theorem liesAt_self {P : Program} {e : TypeId} {count : Nat} (hc : 0 < P.cellsOf e) (hn : 1 ≤ count) : liesAt P P.depth e count 0 e 1 = true := by
  have hd : P.depth = (2 * (P.types.size + Made.depth) + 1) + 1 := rfl
  rw [hd]
  simp only [liesAt, Bool.or_eq_true]
  left
  rw [hd]
  have : P.cellsOf e ≠ 0 := by omega
  simp [rowAt, this, hn, sameLayout]
theorem tptK_ok {u : TypeId} {sz : Nat} {x : AV} {k : AV → Option α} {r : α} (h : tptK u sz x A k = some r) :
    ∃ v, k v = some r ∧ ∀ (X : Ctx) σ w vx src dst j, WRel X σ A w → VRel σ x vx → X.P.underlying src = some .unsafePointer → X.P.underlying dst = some (.pointer u) → X.P.info? u = some j → j.size = sz →
      Rd X σ w (convert src dst vx) v := by
  unfold tptK at h
  split at h
  · refine ⟨_, h, fun X σ w vx src dst j hw hx hs hd hj hjs => ⟨_, .nptr, ?_⟩⟩
    cases hx
    simp [convert, run_underlying hs, run_underlying hd, Conv.unsafePointer]
  · rename_i b
    split at h
    · rename_i t n e cl hb
      split at h
      · rename_i hcond
        simp only [Bool.and_eq_true] at hcond
        have c1 := Nat.eq_of_beq_eq_true hcond.1.1
        have c2 := Nat.le_of_ble_eq_true hcond.1.2
        have c3 : 0 < sz := by have := hcond.2; rw [blt_decide] at this; exact of_decide_eq_true this
        subst c1
        refine ⟨_, h, fun X σ w vx src dst j hw hx hs hd hj hjs => ?_⟩
        obtain ⟨c, hc, rfl⟩ := hx.ptr_inv
        obtain ⟨c', cs, fr, hc', hO, hsz, _, ht, _⟩ := hw.cells hb
        have := Option.some.inj (hc.symm.trans hc'); subst this
        have hcell : X.P.cellsOf e = sz := by simp [Program.cellsOf, hj, hjs]
        exact ⟨_, .ptr hc, Lib.run_from_unsafe (P := X.P) (w := w) ⟨c, 0, none⟩ hs hd hj (e := e) (cells := cs.size) (by simp [World.shape?, hO])
          (liesAt_self (by omega) (by rw [hcell]; exact (Nat.le_div_iff_mul_le c3).2 (by omega)))⟩
      · cases h
    · cases h
  · cases h
def sliceDataK (x : AV) (k : AV → Option α) : Option α :=
  match x with
  | .nslice => k .nptr
  | .slice b o _ cap _ => (match cap with
    | 0 => none
    | _ + 1 => k (.ptr b o))
  | _ => none
theorem sliceDataK_ok {x : AV} {k : AV → Option α} {r : α} (h : sliceDataK x k = some r) :
    ∃ v, k v = some r ∧ ∀ P σ vx ts ty, VRel σ x vx → Pur P σ (Builtin.unsafeSliceData_ ts ty #[vx]) v := by
  unfold sliceDataK at h
  split at h
  · refine ⟨_, h, fun P σ vx ts ty hx => ?_⟩
    cases hx
    exact ⟨_, .nptr, fun w => Lib.run_unsafeSliceData_nil (P := P) (w := w) ts ty 0 0⟩
  · split at h
    · cases h
    · refine ⟨_, h, fun P σ vx ts ty hx => ?_⟩
      obtain ⟨c, cap', hc, h1, _, _, _, rfl⟩ := hx.slice_inv
      exact ⟨_, .ptr hc, fun w => Lib.run_unsafeSliceData_row (P := P) (w := w) ts ty _ _ _ (by omega)⟩
  · cases h
def ustringK (e : TypeId) (x n : AV) (A : AW) (k : AV → AW → Option α) : Option α :=
  match x, n with
  | .nptr, .int .i64 (.ofNat 0) => k (.str 0 []) A
  | .ptr b 0, .int .i64 (.ofNat n) => (match n with
    | 0 => k (.str 0 []) A
    | _ + 1 => (match A.heap.get b with
      | some (.cells t m e' cl) => (match Nat.beq e e' && Nat.blt n 9223372036854775808 with
        | true => gatherK t 0 n fun l => (match bytesOf l with
          | some bs => listK bs fun bs => T.setK (some (.cells t m e' false)) b A.heap fun h => natK n fun n => k (.str n bs) ⟨h, A.next⟩
          | none => none)
        | false => none)
      | _ => none))
  | _, _ => none
theorem ustringK_ok {e : TypeId} {x n : AV} {k : AV → AW → Option α} {r : α} (h : ustringK e x n A k = some r) :
    ∃ v A', k v A' = some r ∧ ∀ (X : Ctx) σ w vx vn pt it ty, WRel X σ A w → VRel σ x vx → VRel σ n vn → X.P.underlying pt = some (.pointer e) → X.P.cellsOf e = 1 →
      Gives X σ A w (Builtin.unsafeString_ #[pt, it] ty #[vx, vn]) v A' := by
  unfold ustringK at h
  split at h
  · refine ⟨_, _, h, fun X σ w vx vn pt it ty hw hx hn hp hc => ?_⟩
    cases hx
    have := hn.int_inv; subst this
    exact ⟨σ, w, _, Lib.run_unsafeString_none (P := X.P) (w := w) pt it ty none, Ext.refl hw, .str rfl rfl⟩
  · split at h
    · refine ⟨_, _, h, fun X σ w vx vn pt it ty hw hx hn hp hc => ?_⟩
      obtain ⟨c, hc', rfl⟩ := hx.ptr_inv
      have := hn.int_inv; subst this
      exact ⟨σ, w, _, Lib.run_unsafeString_none (P := X.P) (w := w) pt it ty _, Ext.refl hw, .str rfl rfl⟩
    · rename_i b n' n
      split at h
      · rename_i t m e' cl hb
        split at h
        · rename_i hcond
          simp only [Bool.and_eq_true] at hcond
          have c1 := Nat.eq_of_beq_eq_true hcond.1
          have c2 : n.succ < 9223372036854775808 := by have := hcond.2; rw [blt_decide] at this; exact of_decide_eq_true this
          subst c1
          obtain ⟨l, hk, hl, hg⟩ := gatherK_ok h
          split at hk
          · rename_i bs hbs
            simp only [listK_eq, T.setK_eq, natK_eq] at hk
            refine ⟨_, _, hk, fun X σ w vx vn pt it ty hw hx hn hp hcell => ?_⟩
            obtain ⟨c, hc, rfl⟩ := hx.ptr_inv
            have := hn.int_inv; subst this
            obtain ⟨c', cs, fr, hc', hO, hsz, hkk, ht, _⟩ := hw.cells hb
            have := Option.some.inj (hc.symm.trans hc'); subst this
            obtain ⟨vs, h1, h2, h3⟩ := ht.row hl hg
            obtain ⟨e1, e2⟩ := bytesOf_ok hbs h1
            have hlen : (bs.map UInt8.ofNat).length = n.succ := by
              have := congrArg List.length e1
              simp at this ⊢; omega
            have hcs : n.succ ≤ cs.size := by
              have hlast : n < vs.length := by omega
              have := h3 n vs[n] (by simp [hlast])
              have := (Array.getElem?_eq_some_iff.1 this).1
              omega
            have hrun := Lib.run_unsafeString_row (P := X.P) (w := w) pt it ty e hp hcell c cs.size (by simp [World.shape?, hO]) (bs.map UInt8.ofNat) (by intro h0; rw [h0] at hlen; simp at hlen) (by omega) (by omega)
              (fun j x hx => by
                rw [addr_add, cell_of hO]
                refine h3 j _ ?_
                rw [e1]; simp only [List.getElem?_map]
                simp only [List.getElem?_map] at hx
                rw [hx]; rfl)
            rw [hlen] at hrun
            refine ⟨σ, _, _, hrun, ?_, .str (by simpa [strBytes] using e2) (by show ((bs.map UInt8.ofNat).toArray).size = _; simpa using hlen)⟩
            have hlt : c < w.heap.size := (Array.getElem?_eq_some_iff.1 hO).1
            have hfz : ∃ fr', ∀ d, (w.freeze ⟨c, 0, none⟩ n.succ).heap[d]? = if d = c then some (.cells cs e fr') else w.heap[d]? := by
              refine ⟨if fr.1 == fr.2 then (0, 0 + n.succ) else (min fr.1 0, max fr.2 (0 + n.succ)), fun d => ?_⟩
              simp only [World.freeze, if_neg (show ¬ n.succ = 0 by omega)]
              rw [Array.getElem?_modify]
              by_cases hd : d = c
              · subst hd; rw [if_pos rfl, hO]; simp
              · rw [if_neg (fun e => hd e.symm), if_neg hd]
            obtain ⟨fr', hfz⟩ := hfz
            refine Ext.change hw hb hc (O' := .cells cs e fr') (.cells hsz hkk ht (fun h => by cases h)) hfz (fun cs₁ e₁ fr₁ h => by cases h; exact hw.size b c cs e _ hc hO) ?_ ?_ ?_ ?_
            · simp [World.freeze]
            · simp [World.freeze]
            · simp [World.freeze]
            · simp [World.freeze]
          · cases hk
        · cases h
      · cases h
  · cases h
def lenK (t : EqT) (x : AV) (A : AW) (k : AV → Option α) : Option α :=
  match t, x with
  | .str, .str n _ => k (.int .i64 (.ofNat n))
  | .sl, .nslice => k (.int .i64 (.ofNat 0))
  | .sl, .slice _ _ n _ _ => k (.int .i64 (.ofNat n))
  | .mp, .nmap => k (.int .i64 (.ofNat 0))
  | .mp, .map b => (match A.heap.get b with
    | some (.map es _) => natK es.length fun n => k (.int .i64 (.ofNat n))
    | _ => none)
  | _, _ => none
def LenT (P : Program) (t : TypeId) : EqT → Prop
  | .str => P.underlying t = some .string
  | .sl => ∃ e, P.underlying t = some (.slice e)
  | .mp => ∃ k e, P.underlying t = some (.map k e)
  | _ => False
theorem EsRel.length : ∀ {l : List (AV × AV × Nat)} {es : List MapEntry}, EsRel σ l es → l.length = es.length
  | _, _, .nil => rfl
  | _, _, .cons _ _ _ t => by simp [t.length]
theorem lenK_ok {t : EqT} {x : AV} {k : AV → Option α} {r : α} (h : lenK t x A k = some r) :
    ∃ v, k v = some r ∧ ∀ (X : Ctx) σ w vx ty ty', WRel X σ A w → VRel σ x vx → LenT X.P ty t → Rd X σ w (Builtin.len_ #[ty] ty' #[vx]) v := by
  unfold lenK at h
  split at h
  · refine ⟨_, h, fun X σ w vx ty ty' hw hx hu => ?_⟩
    obtain ⟨s, _, hn, rfl⟩ := hx.str_inv
    have hu : X.P.underlying ty = some .string := hu
    exact ⟨_, .int _ _, by simp [Builtin.len_, run_underlying hu, goInt, hn]⟩
  · refine ⟨_, h, fun X σ w vx ty ty' hw hx hu => ?_⟩
    obtain ⟨e, hu⟩ := hu
    cases hx
    exact ⟨_, .int _ _, by simp [Builtin.len_, run_underlying hu, goInt]⟩
  · refine ⟨_, h, fun X σ w vx ty ty' hw hx hu => ?_⟩
    obtain ⟨e, hu⟩ := hu
    obtain ⟨c, cap', hc, h1, _, _, _, rfl⟩ := hx.slice_inv
    exact ⟨_, .int _ _, by simp [Builtin.len_, run_underlying hu, goInt]⟩
  · refine ⟨_, h, fun X σ w vx ty ty' hw hx hu => ?_⟩
    obtain ⟨kk, e, hu⟩ := hu
    cases hx
    exact ⟨_, .int _ _, by simp [Builtin.len_, run_underlying hu, goInt]⟩
  · split at h
    · rename_i es clock hb
      simp only [natK_eq] at h
      refine ⟨_, h, fun X σ w vx ty ty' hw hx hu => ?_⟩
      obtain ⟨kk, e, hu⟩ := hu
      obtain ⟨c, E, hc, hO, hE⟩ := hw.map_at hb
      cases hx with
      | map hc2 =>
        have := Option.some.inj (hc.symm.trans hc2); subst this
        exact ⟨_, .int _ _, by simp [Builtin.len_, run_underlying hu, goInt, run_getMap hO, hE.length]⟩
    · cases h
  · cases h
def capK (x : AV) (k : AV → Option α) : Option α :=
  match x with
  | .nslice => k (.int .i64 (.ofNat 0))
  | .slice _ _ _ cap ex => (match ex with
    | 0 => k (.int .i64 (.ofNat cap))
    | _ + 1 => k (.ge (.ofNat cap)))
  | _ => none
theorem capK_ok {x : AV} {k : AV → Option α} {r : α} (h : capK x k = some r) :
    ∃ v, k v = some r ∧ ∀ P σ vx ty ty' e, VRel σ x vx → P.underlying ty = some (.slice e) → Pur P σ (Builtin.cap_ #[ty] ty' #[vx]) v := by
  unfold capK at h
  split at h
  · refine ⟨_, h, fun P σ vx ty ty' e hx hu => ?_⟩
    cases hx
    exact ⟨_, .int _ _, fun w => by simp [Builtin.cap_, run_underlying hu, goInt]⟩
  · split at h
    · refine ⟨_, h, fun P σ vx ty ty' e hx hu => ?_⟩
      obtain ⟨c, cap', hc, h1, h2, _, _, rfl⟩ := hx.slice_inv
      have := h2 rfl; subst this
      exact ⟨_, .int _ _, fun w => by simp [Builtin.cap_, run_underlying hu, goInt]⟩
    · refine ⟨_, h, fun P σ vx ty ty' e hx hu => ?_⟩
      obtain ⟨c, cap', hc, h1, h2, _, h3, rfl⟩ := hx.slice_inv
      exact ⟨.int .i64 cap', .ge (by simp; omega) (by omega), fun w => by simp [Builtin.cap_, run_underlying hu, goInt]⟩
  · cases h
def copyK (sz : Nat) (x y : AV) (A : AW) (k : AV → AW → Option α) : Option α :=
  match x, y with
  | .slice b o dl _ _, .slice b' o' sl _ _ => (match A.heap.get b' with
    | some (.cells t _ _ _) => natK (Nat.min sl dl) fun n => gatherK t o' (n * sz) fun l => storeRowK b o l A fun A => k (.int .i64 (.ofNat n)) A
    | _ => none)
  | .slice _ _ _ _ _, .nslice => k (.int .i64 (.ofNat 0)) A
  | _, _ => none
theorem copyK_ok {sz : Nat} {x y : AV} {k : AV → AW → Option α} {r : α} (h : copyK sz x y A k = some r) :
    ∃ v A', k v A' = some r ∧ ∀ (X : Ctx) σ w vx vy t u ty e i, WRel X σ A w → VRel σ x vx → VRel σ y vy → X.P.underlying t = some (.slice e) → X.P.info? e = some i → i.size = sz →
      Gives X σ A w (Builtin.copy_ #[t, u] ty #[vx, vy]) v A' := by
  unfold copyK at h
  split at h
  · rename_i b o dl c1 x1 b' o' sl c2 x2
    split at h
    · rename_i tt m e' cl hb
      simp only [natK_eq] at h
      obtain ⟨l, hk, hl, hg⟩ := gatherK_ok h
      obtain ⟨A', hk', hnx, hA⟩ := storeRowK_ok hk
      refine ⟨_, _, hk', fun X σ w vx vy t u ty e i hw hx hy hu hi hs => ?_⟩
      obtain ⟨c, cap', hc, _, _, _, _, rfl⟩ := hx.slice_inv
      obtain ⟨d, dap', hd, _, _, _, _, rfl⟩ := hy.slice_inv
      obtain ⟨d', cs, fr, hd', hO, hsz, hkk, ht, _⟩ := hw.cells hb
      have := Option.some.inj (hd.symm.trans hd'); subst this
      obtain ⟨vs, h1, h2, h3⟩ := ht.row hl hg
      obtain ⟨w', hst, hext⟩ := hA X σ w c vs hw hc h1
      have hf := run_firstCells_some (P := X.P) w sz (Nat.min sl dl) ⟨d, o', none⟩ sl dap' vs h2 (fun j v hv => by rw [addr_add, cell_of hO]; exact h3 j v hv)
      subst hs
      exact ⟨σ, w', _, by simp [Builtin.copy_, run_underlying hu, Builtin.lenOf, sizeOf, typeInfo, hi, hf, hst, goInt], hext, .int _ _⟩
    · cases h
  · refine ⟨_, _, h, fun X σ w vx vy t u ty e i hw hx hy hu hi hs => ?_⟩
    obtain ⟨c, cap', hc, _, _, _, _, rfl⟩ := hx.slice_inv
    cases hy
    exact ⟨σ, w, _, by simp [Builtin.copy_, run_underlying hu, Builtin.lenOf, Builtin.firstCells, sizeOf, typeInfo, hi, storeCells, goInt], Ext.refl hw, .int _ _⟩
  · cases h
def clearK (zs : List AV) (x : AV) (A : AW) (k : AW → Option α) : Option α :=
  match x with
  | .nslice => k A
  | .slice b o n _ _ => (match n with
    | 0 => k A
    | n + 1 => storeRowK b o (repL (n + 1) zs) A k)
  | _ => none
theorem clearK_ok {zs : List AV} {x : AV} {k : AW → Option α} {r : α} (h : clearK zs x A k = some r) :
    ∃ A', k A' = some r ∧ ∀ (X : Ctx) σ w vx t ty e i z, WRel X σ A w → VRel σ x vx → X.P.underlying t = some (.slice e) → X.P.info? e = some i → i.zero = some z → VsRel σ zs z.cells.toList →
      Gives X σ A w (Builtin.clear_ #[t] ty #[vx]) (.tuple []) A' := by
  unfold clearK at h
  split at h
  · refine ⟨_, h, fun X σ w vx t ty e i z hw hx hu hi hz hzs => ?_⟩
    cases hx
    exact ⟨σ, w, _, by simp [Builtin.clear_, run_underlying hu], Ext.refl hw, .tuple .nil⟩
  · split at h
    · refine ⟨_, h, fun X σ w vx t ty e i z hw hx hu hi hz hzs => ?_⟩
      obtain ⟨c, cap', hc, _, _, _, _, rfl⟩ := hx.slice_inv
      exact ⟨σ, w, _, by simp [Builtin.clear_, run_underlying hu], Ext.refl hw, .tuple .nil⟩
    · rename_i n
      obtain ⟨A', hk', hnx, hA⟩ := storeRowK_ok h
      refine ⟨_, hk', fun X σ w vx t ty e i z hw hx hu hi hz hzs => ?_⟩
      obtain ⟨c, cap', hc, _, _, _, _, rfl⟩ := hx.slice_inv
      obtain ⟨w', hst, hext⟩ := hA X σ w c _ hw hc (repL_rel hzs (n + 1))
      exact ⟨σ, w', _, by simp [Builtin.clear_, run_underlying hu, zeroValue, typeInfo, hi, hz, hst], hext, .tuple .nil⟩
  · cases h
def maxK (x y : AV) (k : AV → Option α) : Option α :=
  match x, y with
  | .int j a, .int _ b => (match ilt a b with
    | true => k (.int j b)
    | false => k (.int j a))
  | _, _ => none
def minK (x y : AV) (k : AV → Option α) : Option α :=
  match x, y with
  | .int j a, .int _ b => (match ilt b a with
    | true => k (.int j b)
    | false => k (.int j a))
  | _, _ => none
theorem maxK_ok {x y : AV} {k : AV → Option α} {r : α} (h : maxK x y k = some r) :
    ∃ v, k v = some r ∧ ∀ P σ vx vy ts ty, VRel σ x vx → VRel σ y vy → Pur P σ (Builtin.max_ ts ty #[vx, vy]) v := by
  unfold maxK at h
  split at h
  · split at h
    · rename_i hlt
      refine ⟨_, h, fun P σ vx vy ts ty hx hy => ⟨_, .int _ _, fun w => ?_⟩⟩
      have := hx.int_inv; subst this
      have := hy.int_inv; subst this
      rw [ilt_eq] at hlt
      have := of_decide_eq_true hlt
      simp [Builtin.max_, Builtin.max2, this]
    · rename_i hlt
      refine ⟨_, h, fun P σ vx vy ts ty hx hy => ⟨_, .int _ _, fun w => ?_⟩⟩
      have := hx.int_inv; subst this
      have := hy.int_inv; subst this
      rw [ilt_eq] at hlt
      have := of_decide_eq_false hlt
      simp [Builtin.max_, Builtin.max2, this]
  · cases h
theorem minK_ok {x y : AV} {k : AV → Option α} {r : α} (h : minK x y k = some r) :
    ∃ v, k v = some r ∧ ∀ P σ vx vy ts ty, VRel σ x vx → VRel σ y vy → Pur P σ (Builtin.min_ ts ty #[vx, vy]) v := by
  unfold minK at h
  split at h
  · split at h
    · rename_i hlt
      refine ⟨_, h, fun P σ vx vy ts ty hx hy => ⟨_, .int _ _, fun w => ?_⟩⟩
      have := hx.int_inv; subst this
      have := hy.int_inv; subst this
      rw [ilt_eq] at hlt
      have := of_decide_eq_true hlt
      simp [Builtin.min_, Builtin.min2, this]
    · rename_i hlt
      refine ⟨_, h, fun P σ vx vy ts ty hx hy => ⟨_, .int _ _, fun w => ?_⟩⟩
      have := hx.int_inv; subst this
      have := hy.int_inv; subst this
      rw [ilt_eq] at hlt
      have := of_decide_eq_false hlt
      simp [Builtin.min_, Builtin.min2, this]
  · cases h
def tassertK (t : TypeId) (zero : AV) (ok : Bool) (x : AV) (k : AV → Option α) : Option α :=
  match x with
  | .iface u v => (match Nat.beq u t with
    | true => (match ok with
      | true => k (.tuple [v, .bool true])
      | false => k v)
    | false => (match ok with
      | true => k (.tuple [zero, .bool false])
      | false => none))
  | .niface => (match ok with
    | true => k (.tuple [zero, .bool false])
    | false => none)
  | _ => none
theorem tassertK_ok {t : TypeId} {zero : AV} {ok : Bool} {x : AV} {k : AV → Option α} {r : α} (h : tassertK t zero ok x k = some r) :
    ∃ v, k v = some r ∧ ∀ P σ vx xt d i z, VRel σ x vx → P.underlying t = some d → (∀ ms, d ≠ .interface ms) → P.info? t = some i → i.zero = some z → VRel σ zero z → Pur P σ (Instr.typeAssert vx xt t ok) v := by
  unfold tassertK at h
  split at h
  · rename_i u v
    split at h
    · rename_i hu
      have hu := Nat.eq_of_beq_eq_true hu
      subst hu
      split at h
      · refine ⟨_, h, fun P σ vx xt d i z hx hd hni hi hz hzr => ?_⟩
        cases hx with
        | iface hv =>
          refine ⟨_, .tuple (.cons hv (.cons (.bool true) .nil)), fun w => ?_⟩
          cases d <;> first | exact absurd rfl (hni _) | simp [Instr.typeAssert, run_underlying hd]
      · refine ⟨_, h, fun P σ vx xt d i z hx hd hni hi hz hzr => ?_⟩
        cases hx with
        | iface hv =>
          refine ⟨_, hv, fun w => ?_⟩
          cases d <;> first | exact absurd rfl (hni _) | simp [Instr.typeAssert, run_underlying hd]
    · rename_i hu
      split at h
      · refine ⟨_, h, fun P σ vx xt d i z hx hd hni hi hz hzr => ?_⟩
        cases hx with
        | iface hv =>
          refine ⟨_, .tuple (.cons hzr (.cons (.bool false) .nil)), fun w => ?_⟩
          have hne : ¬ (u = t) := fun e => by subst e; simp at hu
          cases d <;> first | exact absurd rfl (hni _) | simp [Instr.typeAssert, run_underlying hd, hne, zeroValue, typeInfo, hi, hz]
      · cases h
  · split at h
    · refine ⟨_, h, fun P σ vx xt d i z hx hd hni hi hz hzr => ?_⟩
      cases hx
      refine ⟨_, .tuple (.cons hzr (.cons (.bool false) .nil)), fun w => ?_⟩
      cases d <;> first | exact absurd rfl (hni _) | simp [Instr.typeAssert, run_underlying hd, zeroValue, typeInfo, hi, hz]
    · cases h
  · cases h
def noZeroK (e : TypeId) (x : AV) (A : AW) (k : AV → AW → Option α) : Option α :=
  match x with
  | .int .i64 (.ofNat n) => (match Nat.ble n 281474976710656 with
    | true => A.newK (.cells .nil n e true) fun b A => natK n fun n => k (.slice b 0 n n 1) A
    | false => none)
  | _ => none
theorem noZeroK_ok {e : TypeId} {x : AV} {k : AV → AW → Option α} {r : α} (h : noZeroK e x A k = some r) :
    ∃ v A', k v A' = some r ∧ ∀ (X : Ctx) σ w vx ps t, WRel X σ A w → VRel σ x vx → X.P.underlying t = some (.slice e) → Gives X σ A w (Extern.BytealgMakeNoZero.makeNoZero ps #[t] #[vx]) v A' := by
  unfold noZeroK at h
  split at h
  · rename_i n
    split at h
    · rename_i hn
      have hn := Nat.le_of_ble_eq_true hn
      simp only [newK_eq, natK_eq] at h
      refine ⟨_, _, h, fun X σ w vx ps t hw hx hu => ?_⟩
      have := hx.int_inv; subst this
      obtain ⟨cs, hrun, hle, hmax⟩ := Lib.run_makeNoZero (P := X.P) w ps t e hu n hn
      have hmax := hmax (by unfold maxLen; omega)
      have hd1 := Ext.drawn hw (w.drawn + 2)
      obtain ⟨_, hnew⟩ := newRow_ok (X := X) (σ := σ) (A := A) (w := { w with drawn := w.drawn + 2 }) (cs := cs) (t := .nil) (n := n) hd1.rel e hle (fun x v hx => by simp at hx) (TRel.nil cs)
      refine ⟨_, _, _, hrun, hd1.trans hnew, .slice (Sig.put_same _ _ _ _) hle (fun e => by cases e) (fun _ => ?_) (by unfold maxLen at hmax; omega)⟩
      rw [Sig.put_sz]; omega
    · cases h
  · cases h
end Go.Abs
end
