/- Tickets in plain words. -/
import Derived.Test.YtppkbmlbggokkaaDoorPlain
namespace Go.Proofs.YtppkbmlbggokkaaDoor
/-- is the ticket (s, g) signed for the key p? -/
def tkB (p s g : Int) : Bool := elB p && numB s && elB g && (prodZ g 5 == prodZ p (s + 1))
theorem tkB_p {p s g : Int} (h : elB p = false) : tkB p s g = false := by simp [tkB, h]
theorem tkB_s {p s g : Int} (h : numB s = false) : tkB p s g = false := by simp [tkB, h]
theorem tkB_g {p s g : Int} (h : elB g = false) : tkB p s g = false := by simp [tkB, h]
theorem tkB_ok {p s g : Int} (h1 : elB p = true) (h2 : numB s = true) (h3 : elB g = true) : tkB p s g = (prodZ g 5 == prodZ p (s + 1)) := by simp [tkB, h1, h2, h3]
/-- a made ticket: is it made, its serial number, its signature -/
def tmB (s n : Int) : Bool := elB s && numB n
def tmN (s n : Int) : Int := if tmB s n = true then n else 0
def tmG (s n : Int) : Int := if tmB s n = true then prodZ s (n + 1) else 0
theorem tm_no {s n : Int} (h : tmB s n = false) : tmN s n = 0 ∧ tmG s n = 0 := by simp [tmN, tmG, h]
theorem tm_yes {s n : Int} (h : tmB s n = true) : tmN s n = n ∧ tmG s n = prodZ s (n + 1) := by simp [tmN, tmG, h]
end Go.Proofs.YtppkbmlbggokkaaDoor
