/- the plain law of queues -/
set_option linter.unusedVariables false
namespace Go.Proofs.Ytdddoioecccfpaa

structure S where
  at' : Int
  by' : Int
  deriving DecidableEq
def s0 : S := ⟨0, 0⟩
def S.bad (s : S) : Prop := s.at' < 0 ∨ 1048576 < s.at' ∨ s.by' < 0 ∨ 1048576 < s.by'
instance (s : S) : Decidable s.bad := by unfold S.bad; infer_instance

def wrongGo : Bool → Int → List S → Int
  | _, _, [] => 0
  | first, p, s :: r => if s.bad then 2 else if first = false ∧ s.at' < p then 1 else wrongGo false s.at' r
def wrongL (l : List S) : Int := if 400 < l.length then 2 else wrongGo true 0 l

/-- how long each one waits; free: when the server is free -/
def waitsGo : Int → List S → List Int
  | _, [] => []
  | free, s :: r => (max free s.at' - s.at') :: waitsGo (max free s.at' + s.by') r
def waits (l : List S) : List Int := waitsGo 0 l
/-- how many are there -/
def thereGo (t : Int) : List S → List Int → Int
  | s :: r, w :: v => (if s.at' ≤ t ∧ t < s.at' + w + s.by' then 1 else 0) + thereGo t r v
  | _, _ => 0
def there (l : List S) (t : Int) : Int := thereGo t l (waits l)
/-- the work that came by then -/
def workGo (t : Int) : Int → Int → List S → Int × Int
  | work, now, [] => (work, now)
  | work, now, s :: r => if t < s.at' then (work, now) else workGo t (max (work - (s.at' - now)) 0 + s.by') s.at' r
def workEnd (t : Int) (p : Int × Int) : Int := if t < p.2 then 0 else max (p.1 - min (t - p.2) p.1) 0
def work (l : List S) (t : Int) : Int := workEnd t (workGo t 0 0 l)
end Go.Proofs.Ytdddoioecccfpaa
