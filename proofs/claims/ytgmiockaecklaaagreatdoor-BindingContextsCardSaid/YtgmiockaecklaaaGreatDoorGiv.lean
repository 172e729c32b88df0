/-
  Giv: what a call gives (here out of the floats' text).
-/
import Derived.Test.YtgmiockaecklaaaGreatDoorBE
